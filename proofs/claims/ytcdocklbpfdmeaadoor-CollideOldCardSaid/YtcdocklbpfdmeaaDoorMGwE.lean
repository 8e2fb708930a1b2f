import Derived.Test.YtcdocklbpfdmeaaDoorMGrow
import Derived.Test.YtcdocklbpfdmeaaDoorMGwD
import Derived.Test.YtcdocklbpfdmeaaDoorMGwC
import Derived.Test.YtcdocklbpfdmeaaDoorMCoQ

/- Collide: growths: extended$1, extended, Extends, Extend. -/
set_option linter.unusedSimpArgs false
set_option linter.unusedVariables false
set_option linter.unnecessarySimpa false
set_option maxRecDepth 20000
namespace Go.Proofs.YtcdocklbpfdmeaaDoor
open Go.RowKit
theorem info_growthE : (Tryd.prog.info? 79).map (·.size) = some 34 := by kernel_rfl
@[go_sem] theorem load_growthE (b o : Nat) (w : World) : loadRun Tryd.prog 79 (.pointer (some ⟨b, o, none⟩)) w = match cellsN w b o 34 with | some cs => .ok (.value (.agg cs)) w | none => loadRaw Tryd.prog 79 (.pointer (some ⟨b, o, none⟩)) w := loadRun_row Tryd.underlying79 rfl info_growthE b o w
@[go_sem] theorem store_growthE (b o : Nat) (vs : Array Value) (w : World) : storeRun Tryd.prog 79 (.pointer (some ⟨b, o, none⟩)) (.agg vs) w = if (vs.size == 34 && (cellsN w b o 34).isSome && !frozenN w b o 34 && oneCells vs) = true then .ok .skip (w.setCells b o vs.toList) else storeRaw Tryd.prog 79 (.pointer (some ⟨b, o, none⟩)) (.agg vs) w := storeRun_row info_growthE b o vs w
/-- A growth's cells. -/
def growR (m : Int) (d : Dg) (v : Value) : Array Value := #[I m] ++ rowB 32 (dF d) ++ #[v]
@[go_sem, simp] theorem growR_size (m : Int) (d : Dg) (v : Value) : (growR m d v).size = 34 := by simp [growR]
@[go_sem] theorem growR_0 (m : Int) (d : Dg) (v : Value) : (growR m d v)[0]? = some (I m) := by
  unfold growR
  rw [Array.getElem?_append_left (by simp), Array.getElem?_append_left (by simp)]; rfl
@[go_sem] theorem growR_33 (m : Int) (d : Dg) (v : Value) : (growR m d v)[33]? = some v := by
  unfold growR
  rw [Array.getElem?_append_right (by simp)]; simp
@[go_sem] theorem growR_at0 (m : Int) (d : Dg) (v : Value) (h : 0 < (growR m d v).size) : (growR m d v)[0] = I m := Option.some.inj ((Array.getElem?_eq_getElem h).symm.trans (growR_0 m d v))
@[go_sem] theorem growR_at33 (m : Int) (d : Dg) (v : Value) (h : 33 < (growR m d v).size) : (growR m d v)[33] = v := Option.some.inj ((Array.getElem?_eq_getElem h).symm.trans (growR_33 m d v))
@[go_sem] theorem growR_mid (m : Int) (d : Dg) (v : Value) : (growR m d v).extract 1 33 = rowB 32 (dF d) := by
  refine Array.ext_getElem? fun i => ?_
  rw [Array.getElem?_extract]
  simp only [growR_size]
  unfold growR
  by_cases hi : i < 32
  · rw [if_pos (by omega), Array.getElem?_append_left (by simp; omega), Array.getElem?_append_right (by simp)]
    simp
  · rw [if_neg (by omega), Array.getElem?_eq_none (by simp; omega)]
@[go_sem] theorem growR_one (m : Int) (d : Dg) (v : Value) : oneCells (growR m d v) = v.oneCell' := by
  unfold growR oneCells
  rw [Array.all_append, Array.all_append, rowB_one]
  simp [go_sem]
theorem growR_block {w : World} {b : Nat} {m : Int} {d : Dg} {v : Value} {t : TypeId} (h : w.heap[b]? = some (.cells (growR m d v) t (0, 0))) : w.cell? ⟨b, 0, none⟩ = some (I m) ∧ cellsN w b 1 32 = some (rowB 32 (dF d)) ∧ w.cell? ⟨b, 33, none⟩ = some v ∧ b < w.heap.size := by
  refine ⟨(block_cellF (o := 0) h (growR_0 _ _ _)).1, ?_, (block_cellF (o := 33) h (growR_33 _ _ _)).1, (Array.getElem?_eq_some_iff.1 h).1⟩
  refine cellsN_some.2 ⟨by simp, fun j hj => ?_⟩
  rw [cell_of_row w b (1 + j) _ _ _ h, ← growR_mid m d v, Array.getElem?_extract, if_pos (by rw [growR_size]; omega)]
set_option maxHeartbeats 1000000 in
theorem wgrow_any {w0 A : World} (G : Glob w0) (k0 : Ex w0 A) (W : Nat) (hW : W ≤ 256) {p : Nat} (hp : A.heap.size ≤ p) (N : Nat) : ∀ (l : List (List UInt8)) (la : Option Addr) (lc : Nat) (m : Nat) (old : Dg) (known : Bool) (proof : List Dg) (pa : Option Addr) (pc : Nat) (c : Cl) (w : World),
    l.length = N → 1 ≤ m → m ≤ N → N ≤ 1024 → N ≤ lc → lc ≤ maxLen → SlLs A la l → ShortL l → proof.length ≤ pc → pc ≤ maxLen → SlD A pa proof → Ex A w → Wk w p W c →
    Calls Tryd.prog 116 #[.pointer (some ⟨p, 0, none⟩), .slice la N lc, I m, .agg (rowB 32 (dF old)), .bool known, .slice pa proof.length pc] w (PostKG p W w (growC (sumW W) l m old known proof c)) := by
  induction N using Nat.strongRecOn with
  | ind N ih =>
    intro l la lc m old known proof pa pc c w hl hm1 hm hN hlc hlm hls hsh hpc hpm hpath kA hk
    by_cases hmN : m = N
    · subst hmN
      rw [growC_all hl.symm]
      exact wgrow_all (A := A) W m la lc old known proof pa pc c w hN hlc hlm hpc hpm (hpath.ex kA) hk
    · have h2 : 2 ≤ N := by omega
      have hk1 := split_lt (n := N) h2
      have hk2 := split_pos N
      rcases snoc_cases proof with rfl | ⟨r, y, rfl⟩
      · rw [growC_nil hm1 (by omega)]
        have HR := Lib.hid (fun w => rest_none pa pc w)
        have HK := Lib.hid hk
        have e0 : ((m : Int) == N) = false := beq_eq_false_iff_ne.2 (by omega)
        clear ih hk hls hpath
        go_enter Tryd.func116, Tryd.ntmps116
        go_wp2_with (go_at_call 142; (with_reducible refine (HR.out _).mono ?_); rintro e w2 ⟨rfl, k2⟩; dsimp only [offE])
        exact ⟨rfl, rfl, Frm.ex (ex_trans (by (try show Ex _ _); repeat (first | (with_reducible exact ex_refl _) | (with_reducible assumption) | (with_reducible refine ex_drewL ?_) | (with_reducible refine ex_appR ?_ _) | (with_reducible refine ex_wx ?_ _) | (with_reducible refine ex_drew ?_) | (with_reducible refine ex_alloc ?_ _))) k2), c, HK.out.ex (ex_trans (by (try show Ex _ _); repeat (first | (with_reducible exact ex_refl _) | (with_reducible assumption) | (with_reducible refine ex_drewL ?_) | (with_reducible refine ex_appR ?_ _) | (with_reducible refine ex_wx ?_ _) | (with_reducible refine ex_drew ?_) | (with_reducible refine ex_alloc ?_ _))) k2)⟩
      · have hrl : (r ++ [y]).length = r.length + 1 := by simp
        rw [hrl] at hpc ⊢
        obtain ⟨g, off, rfl, hg, hcell⟩ := hls.pos (by omega)
        clear hcell
        have HR := Lib.hid (fun w' (k : Ex w w') => rest_some r y pa pc w' hpc hpm (hpath.ex (ex_trans kA k)))
        have HSp := Lib.hid (fun w => split_at N w h2 hN)
        have HT : Hid (∀ w', Ex w w' → Calls Tryd.prog 76 #[I W, .slice (some ⟨g, off, none⟩) (splitN N) lc] w' (Post w' (.agg (rowB 32 (dF (rootC (sumW W) (l.take (splitN N)))))))) := Lib.hid fun w' k => by
          have := wroot_any G W hW (l.take (splitN N)) (some ⟨g, off, none⟩) lc w' (by rw [List.length_take]; omega) (by rw [List.length_take]; omega) hlm ((hls.take _).ex (ex_trans kA k)) (fun b hb => hsh b (List.mem_of_mem_take hb)) (ex_trans k0 (ex_trans kA k))
          rwa [show (l.take (splitN N)).length = splitN N by rw [List.length_take]; omega] at this
        have HD : Hid (∀ w', Ex w w' → Calls Tryd.prog 76 #[I W, .slice (some ⟨g, off + splitN N, none⟩) (N - splitN N) (lc - splitN N)] w' (Post w' (.agg (rowB 32 (dF (rootC (sumW W) (l.drop (splitN N)))))))) := Lib.hid fun w' k => by
          have := wroot_any G W hW (l.drop (splitN N)) (some ⟨g, off + splitN N, none⟩) (lc - splitN N) w' (by rw [List.length_drop]; omega) (by rw [List.length_drop]; omega) (by omega) ((hls.drop _).ex (ex_trans kA k)) (fun b hb => hsh b (List.mem_of_mem_drop hb)) (ex_trans k0 (ex_trans kA k))
          rwa [show (l.drop (splitN N)).length = N - splitN N by rw [List.length_drop]; omega] at this
        by_cases hmk : m ≤ splitN N
        · have hcl := growC_lo (S := sumW W) (l := l) hm1 (by omega) (m := m) (by rw [hl]; exact hmk) old known r y c
          rw [hl] at hcl
          rw [hcl]
          exact wgrow_lo G k0 W hW hp hN hm1 (by omega) hk1 hk2 hmk hlc hlm (by omega) hpm kA hk HR HSp HT HD
            (Lib.hid fun w' k => ih _ hk1 _ _ lc m old known r pa pc c w' (by rw [List.length_take]; omega) hm1 hmk (by omega) (by omega) hlm (hls.take _) (fun b hb => hsh b (List.mem_of_mem_take hb)) (by omega) hpm (by have := hpath.take r.length; simpa using this) (ex_trans kA k) (hk.ex k))
        · have hcl := growC_hi (S := sumW W) (l := l) hm1 (by omega) (m := m) (by rw [hl]; exact hmk) old known r y c
          rw [hl] at hcl
          rw [hcl]
          exact wgrow_hi (known := known) G k0 W hW hp hN hm1 (by omega) hk1 hk2 hmk hlc hlm (by omega) hpm kA hk HR HSp HT HD
            (Lib.hid fun w' k => by
              have := ih (N - splitN N) (by omega) (l.drop (splitN N)) (some ⟨g, off + splitN N, none⟩) (lc - splitN N) (m - splitN N) old false r pa pc c w' (by rw [List.length_drop]; omega) (by omega) (by omega) (by omega) (by omega) (by omega) (hls.drop _) (fun b hb => hsh b (List.mem_of_mem_drop hb)) (by omega) hpm (by have := hpath.take r.length; simpa using this) (ex_trans kA k) (hk.ex k)
              rwa [show ((m - splitN N : Nat) : Int) = (m : Int) - splitN N by omega] at this)
def PostKH (p W : Nat) (w : World) (old R : Dg) (o : Option (Dg × Dg × Cl)) (e : Ending) (w' : World) : Prop := match o with
  | some x => PostK p W w (.bool (decide (x.1 = old) && decide (x.2.1 = R))) x.2.2 e w'
  | none => e = offE ∧ FrP p w w' ∧ ∃ c, Wk w' p W c
set_option maxHeartbeats 1000000 in
theorem ext1_any {w0 A : World} (G : Glob w0) (k0 : Ex w0 A) (W : Nat) (hW : W ≤ 256) {p : Nat} (hp : A.heap.size ≤ p) (l : List (List UInt8)) (la : Option Addr) (lc : Nat) (m : Nat) (old : Dg) (path : List Dg) (pa : Option Addr) (pc : Nat) (c : Cl) (w : World) (lb cb : Nat)
    (hN : l.length ≤ 1024) (hlc : l.length ≤ lc) (hlm : lc ≤ maxLen) (hls : SlLs A la l) (hsh : ShortL l) (hm1 : 1 ≤ m) (hm : m ≤ l.length) (hpc : path.length ≤ pc) (hpm : pc ≤ maxLen) (hpath : SlD A pa path) (kA : Ex A w) (hk : Wk w p W c)
    (hlb : A.heap[lb]? = some (.cells #[.slice la l.length lc] 56 (0, 0))) (hcb : A.heap[cb]? = some (.cells (growR m old (.slice pa path.length pc)) 79 (0, 0))) :
    Calls Tryd.prog 115 #[.pointer (some ⟨p, 0, none⟩), .pointer (some ⟨lb, 0, none⟩), .pointer (some ⟨cb, 0, none⟩)] w (PostKH p W w old (rootC (sumW W) l) (growC (sumW W) l m old true path c)) := by
  have HC : Hid (∀ w', Ex w w' → Calls Tryd.prog 116 #[.pointer (some ⟨p, 0, none⟩), .slice la l.length lc, I m, .agg (rowB 32 (dF old)), .bool true, .slice pa path.length pc] w' (PostKG p W w' (growC (sumW W) l m old true path c))) :=
    Lib.hid fun w' k => wgrow_any G k0 W hW hp l.length l la lc m old true path pa pc c w' rfl hm1 hm hN hlc hlm hls hsh hpc hpm hpath (ex_trans kA k) (hk.ex k)
  have HR : Hid (∀ w', Ex A w' → Calls Tryd.prog 76 #[I W, .slice la l.length lc] w' (Post w' (.agg (rowB 32 (dF (rootC (sumW W) l)))))) := Lib.hid fun w' k => wroot_any G W hW l la lc w' hN hlc hlm (hls.ex k) hsh (ex_trans k0 k)
  have hlw := ex_block kA hlb
  have hcw := ex_block kA hcb
  have l0 := cell_of_row w lb 0 _ _ _ hlw
  obtain ⟨c0, c1, c2, zc⟩ := growR_block hcw
  have zl := (Array.getElem?_eq_some_iff.1 hlw).1
  have nl : lb ≠ p := by have := (Array.getElem?_eq_some_iff.1 hlb).1; omega
  have nc : cb ≠ p := by have := (Array.getElem?_eq_some_iff.1 hcb).1; omega
  have hw0 := hk.width
  have hpw := hk.lt
  have HK := Lib.hid hk
  have HL2 := Lib.hid fun (w2 : World) (F2 : FrP p w w2) => row_frm hlw F2 nl
  have HC4 := Lib.hid fun (w2 : World) (F2 : FrP p w w2) => growR_block (row_frm hcw F2 nc)
  generalize growC (sumW W) l m old true path c = o at HC ⊢
  generalize rootC (sumW W) l = R at HR ⊢
  generalize l.length = N at *
  generalize path.length = pn at *
  clear hk hls hpath hlb hcb hlw hcw
  cases o with
  | none =>
    have HC2 : Hid (∀ w', Ex w w' → Calls Tryd.prog 116 _ w' (fun e w2 => e = offE ∧ FrP p w' w2 ∧ ∃ c, Wk w2 p W c)) := HC
    go_enter Tryd.func115, Tryd.ntmps115
    go_wp2_with (go_at_call 116; (with_reducible refine (HC2.out _ (by (try show Ex _ _); repeat (first | (with_reducible exact ex_refl _) | (with_reducible assumption) | (with_reducible refine ex_drewL ?_) | (with_reducible refine ex_appR ?_ _) | (with_reducible refine ex_wx ?_ _) | (with_reducible refine ex_drew ?_) | (with_reducible refine ex_alloc ?_ _)))).mono ?_); rintro e w2 ⟨rfl, F2', c2, K2⟩; dsimp only [offE]; exact ⟨rfl, rfl, (Frm.ex (by (try show Ex _ _); repeat (first | (with_reducible exact ex_refl _) | (with_reducible assumption) | (with_reducible refine ex_drewL ?_) | (with_reducible refine ex_appR ?_ _) | (with_reducible refine ex_wx ?_ _) | (with_reducible refine ex_drew ?_) | (with_reducible refine ex_alloc ?_ _)))).trans F2', c2, K2⟩)
  | some xc =>
    obtain ⟨xa, xb, c1'⟩ := xc
    have HC2 : Hid (∀ w', Ex w w' → Calls Tryd.prog 116 _ w' (PostK p W w' (growV xa xb) c1')) := HC
    have he := eqD xa old
    have he2 := eqD xb R
    unfold PostKH
    simp only
    generalize decide (xa = old) = b1 at he ⊢
    generalize decide (xb = R) = b2 at he2 ⊢
    cases b1 with
    | false =>
      rw [Bool.false_and]
      go_enter Tryd.func115, Tryd.ntmps115
      go_wp2_with (go_at_call 116; (with_reducible refine (HC2.out _ (by (try show Ex _ _); repeat (first | (with_reducible exact ex_refl _) | (with_reducible assumption) | (with_reducible refine ex_drewL ?_) | (with_reducible refine ex_appR ?_ _) | (with_reducible refine ex_wx ?_ _) | (with_reducible refine ex_drew ?_) | (with_reducible refine ex_alloc ?_ _)))).mono ?_); rintro e w2 ⟨rfl, F2', K2⟩; dsimp only [growV]; have F2 : FrP p w w2 := (Frm.ex (by (try show Ex _ _); repeat (first | (with_reducible exact ex_refl _) | (with_reducible assumption) | (with_reducible refine ex_drewL ?_) | (with_reducible refine ex_appR ?_ _) | (with_reducible refine ex_wx ?_ _) | (with_reducible refine ex_drew ?_) | (with_reducible refine ex_alloc ?_ _)))).trans F2'; obtain ⟨d0, d1, d2, zd⟩ := HC4.out w2 F2; replace F2' := Lib.hid F2')
      refine wp_region_seq [(0, true), (1, true), (2, true), (3, true), (4, true), (5, true), (6, true), (7, true), (8, true), (9, true), (10, true), (11, false), (12, true), (13, true), (14, true)] (by kernel_rfl) (by kernel_rfl) (fun _ _ d _ _ h => by cases d <;> exact h) ?_
      simp only [List.map_cons, List.map_nil, nth]
      repeat (first | ((with_reducible refine wpSeq_look ?_); go_big_quiet_step (fail); (with_reducible refine wpQuiet_nil ?_)) | ((with_reducible refine wpSeq_effF ?_ ?_); (focus rfl); go_simp) | ((with_reducible refine wpSeq_eff ?_ ?_); (focus rfl); (try dsimp only); go_wp2_with (fail); refine mixQ_mk (by (try show Ex _ _); repeat (first | (with_reducible exact ex_refl _) | (with_reducible assumption) | (with_reducible refine ex_drewL ?_) | (with_reducible refine ex_appR ?_ _) | (with_reducible refine ex_wx ?_ _) | (with_reducible refine ex_drew ?_) | (with_reducible refine ex_alloc ?_ _))) ?_))
      refine wpSeq_nil ?_
      go_wp2
      go_ret
      exact ⟨rfl, F2.trans (Frm.ex (by (try show Ex _ _); repeat (first | (with_reducible exact ex_refl _) | (with_reducible assumption) | (with_reducible refine ex_drewL ?_) | (with_reducible refine ex_appR ?_ _) | (with_reducible refine ex_wx ?_ _) | (with_reducible refine ex_drew ?_) | (with_reducible refine ex_alloc ?_ _)))), K2.ex (by (try show Ex _ _); repeat (first | (with_reducible exact ex_refl _) | (with_reducible assumption) | (with_reducible refine ex_drewL ?_) | (with_reducible refine ex_appR ?_ _) | (with_reducible refine ex_wx ?_ _) | (with_reducible refine ex_drew ?_) | (with_reducible refine ex_alloc ?_ _)))⟩
    | true =>
      rw [Bool.true_and]
      go_enter Tryd.func115, Tryd.ntmps115
      go_wp2_with (go_at_call 116; (with_reducible refine (HC2.out _ (by (try show Ex _ _); repeat (first | (with_reducible exact ex_refl _) | (with_reducible assumption) | (with_reducible refine ex_drewL ?_) | (with_reducible refine ex_appR ?_ _) | (with_reducible refine ex_wx ?_ _) | (with_reducible refine ex_drew ?_) | (with_reducible refine ex_alloc ?_ _)))).mono ?_); rintro e w2 ⟨rfl, F2', K2⟩; dsimp only [growV]; have F2 : FrP p w w2 := (Frm.ex (by (try show Ex _ _); repeat (first | (with_reducible exact ex_refl _) | (with_reducible assumption) | (with_reducible refine ex_drewL ?_) | (with_reducible refine ex_appR ?_ _) | (with_reducible refine ex_wx ?_ _) | (with_reducible refine ex_drew ?_) | (with_reducible refine ex_alloc ?_ _)))).trans F2'; have kA2 : Ex A w2 := F2.exA kA hp; have hb2 := HL2.out w2 F2; have d5 := cell_of_row w2 lb 0 _ _ _ hb2; have zl2 := (Array.getElem?_eq_some_iff.1 hb2).1; clear hb2; obtain ⟨d0, d1, d2, zd⟩ := HC4.out w2 F2; have dw := K2.width; have dz := K2.lt; replace F2' := Lib.hid F2')
      refine wp_region_seq [(0, true), (1, true), (2, true), (3, true), (4, true), (5, true), (6, true), (7, true), (8, true), (9, true), (10, true), (11, false), (12, true), (13, true), (14, true)] (by kernel_rfl) (by kernel_rfl) (fun _ _ d _ _ h => by cases d <;> exact h) ?_
      simp only [List.map_cons, List.map_nil, nth]
      repeat (first | ((with_reducible refine wpSeq_look ?_); go_big_quiet_step (fail); (with_reducible refine wpQuiet_nil ?_)) | ((with_reducible refine wpSeq_effF ?_ ?_); (focus rfl); go_simp) | ((with_reducible refine wpSeq_eff ?_ ?_); (focus rfl); (try dsimp only); go_wp2_with ((go_at_call 76; (with_reducible refine (HR.out _ (ex_trans kA2 (by (try show Ex _ _); repeat (first | (with_reducible exact ex_refl _) | (with_reducible assumption) | (with_reducible refine ex_drewL ?_) | (with_reducible refine ex_appR ?_ _) | (with_reducible refine ex_wx ?_ _) | (with_reducible refine ex_drew ?_) | (with_reducible refine ex_alloc ?_ _))))).mono ?_); rintro e w3 ⟨rfl, X, rfl⟩)); refine mixQ_mk (by (try show Ex _ _); repeat (first | (with_reducible exact ex_refl _) | (with_reducible assumption) | (with_reducible refine ex_drewL ?_) | (with_reducible refine ex_appR ?_ _) | (with_reducible refine ex_wx ?_ _) | (with_reducible refine ex_drew ?_) | (with_reducible refine ex_alloc ?_ _))) ?_))
      refine wpSeq_nil ?_
      go_wp2
      go_ret
      exact ⟨rfl, F2.trans (Frm.ex (by (try show Ex _ _); repeat (first | (with_reducible exact ex_refl _) | (with_reducible assumption) | (with_reducible refine ex_drewL ?_) | (with_reducible refine ex_appR ?_ _) | (with_reducible refine ex_wx ?_ _) | (with_reducible refine ex_drew ?_) | (with_reducible refine ex_alloc ?_ _)))), K2.ex (by (try show Ex _ _); repeat (first | (with_reducible exact ex_refl _) | (with_reducible assumption) | (with_reducible refine ex_drewL ?_) | (with_reducible refine ex_appR ?_ _) | (with_reducible refine ex_wx ?_ _) | (with_reducible refine ex_drew ?_) | (with_reducible refine ex_alloc ?_ _)))⟩
end Go.Proofs.YtcdocklbpfdmeaaDoor

/- Collide: growths: extended, Extends, Extend. -/
set_option linter.unusedSimpArgs false
set_option linter.unusedVariables false
set_option linter.unnecessarySimpa false
set_option maxRecDepth 20000
namespace Go.Proofs.YtcdocklbpfdmeaaDoor
open Go.RowKit
set_option maxHeartbeats 1000000 in
theorem extended_any {w0 : World} (G : Glob w0) (W : Int) (l : List (List UInt8)) (la : Option Addr) (lc : Nat) (m : Int) (old : Dg) (path : List Dg) (pa : Option Addr) (pc : Nat) (w : World)
    (hlc : l.length ≤ lc) (hlm : lc ≤ maxLen) (hls : l.length ≤ 1024 → SlLs w la l ∧ ShortL l) (hpc : path.length ≤ pc) (hpm : pc ≤ maxLen) (hpath : SlD w pa path) (k0 : Ex w0 w) :
    Calls Tryd.prog 75 #[I W, .slice la l.length lc, .agg (growR m old (.slice pa path.length pc))] w (PostBC w (extC W l m old path)) := by
  have HO : Hid (l.length ≤ 1024 ∧ 1 ≤ m ∧ m ≤ l.length → ∀ w', Ex ((w.alloc (.cells #[.slice la l.length lc] 56)).alloc (.cells (growR m old (.slice pa path.length pc)) 79)) w' →
      Calls Tryd.prog 97 #[I W, .func (.func 115) #[] #[.pointer (some ⟨w.heap.size, 0, none⟩), .pointer (some ⟨w.heap.size + 1, 0, none⟩)]] w' (PostBC w' (extC W l m old path))) := Lib.hid fun ⟨h1, h2, h3⟩ w' k => by
    by_cases hw : 0 ≤ W ∧ W ≤ 256
    · obtain ⟨N, rfl⟩ : ∃ N : Nat, W = N := ⟨W.toNat, by omega⟩
      obtain ⟨q, rfl⟩ : ∃ q : Nat, m = q := ⟨m.toNat, by omega⟩
      unfold extC
      rw [if_pos ⟨h1, h2, h3, hw⟩, Int.toNat_natCast, Int.toNat_natCast]
      have kw : Ex w w' := ex_trans (ex_alloc (ex_alloc (ex_refl _) _) _) k
      have b1 := ex_block (ex_trans (ex_alloc (ex_refl _) _) k) (heap_alloc_new w (.cells #[.slice la l.length lc] 56))
      have b2 := ex_block k (heap_alloc_new (w.alloc (.cells #[.slice la l.length lc] 56)) (.cells (growR q old (.slice pa path.length pc)) 79))
      rw [World.size_alloc] at b2
      have hI := fun w2 p (k2 : Ex w' w2) (hp : w'.heap.size ≤ p) (hk : Wk w2 p N none) => ext1_any (A := w') G (ex_trans k0 kw) N (by omega) hp l la lc q old path pa pc none w2 w.heap.size (w.heap.size + 1) h1 hlc hlm ((hls h1).1.ex kw) (hls h1).2 (by omega) (by omega) hpc hpm (hpath.ex kw) k2 hk b1 b2
      cases hc : growC (sumW N) l q old true path none with
      | none =>
        refine (walks_off (f := 115) (fun _ _ => rfl) N (by omega) w' fun w2 p k2 hp hk => ?_).mono fun e w3 ⟨h1, h2⟩ => ⟨none, h1, h2, rfl⟩
        have := hI w2 p k2 hp hk
        rw [hc] at this
        exact this
      | some x =>
        obtain ⟨xa, xb, c⟩ := x
        refine walks_ok (f := 115) (fun _ _ => rfl) N (by omega) w' _ c fun w2 p k2 hp hk => ?_
        have := hI w2 p k2 hp hk
        rw [hc] at this
        exact this
    · have he : extC W l m old path = (false, none) := by unfold extC; rw [if_neg (by rintro ⟨_, _, _, h⟩; exact hw h)]
      rw [he]
      exact walks_nw W (decide_eq_false hw) w'
  have HF : Hid (¬ (l.length ≤ 1024 ∧ 1 ≤ m ∧ m ≤ l.length) → extC W l m old path = (false, none)) := Lib.hid fun h => by
    unfold extC; rw [if_neg (by rintro ⟨h1, h2, h3, _⟩; exact h ⟨h1, h2, h3⟩)]
  generalize extC W l m old path = r at HO HF ⊢
  generalize l.length = n at *
  generalize path.length = pn at *
  clear hls hpath
  unfold maxLen at hlm hpm
  by_cases h1 : n ≤ 1024
  · have t1 : decide ((1024 : Int) < n) = false := decide_eq_false (by omega)
    have t11 : decide (1024 < n) = false := decide_eq_false (by omega)
    by_cases h2 : 1 ≤ m
    · have t2 : decide (m < 1) = false := decide_eq_false (by omega)
      by_cases h3 : m ≤ n
      · have t3 : decide ((n : Int) < m) = false := decide_eq_false (by omega)
        have HO2 := Lib.hid (HO.out ⟨h1, h2, h3⟩)
        go_enter Tryd.func75, Tryd.ntmps75
        go_wp2_with (go_at_call 97; (with_reducible refine (HO2.out _ (by (try show Ex _ _); repeat (first | (with_reducible exact ex_refl _) | (with_reducible assumption) | (with_reducible refine ex_drewL ?_) | (with_reducible refine ex_appR ?_ _) | (with_reducible refine ex_wx ?_ _) | (with_reducible refine ex_drew ?_) | (with_reducible refine ex_alloc ?_ _)))).mono ?_); rintro e w2 ⟨pv, rfl, k2, hc2⟩)
        go_ret2
        exact ⟨pv, rfl, ex_trans (by (try show Ex _ _); repeat (first | (with_reducible exact ex_refl _) | (with_reducible assumption) | (with_reducible refine ex_drewL ?_) | (with_reducible refine ex_appR ?_ _) | (with_reducible refine ex_wx ?_ _) | (with_reducible refine ex_drew ?_) | (with_reducible refine ex_alloc ?_ _))) k2, hc2⟩
      · have t3 : decide ((n : Int) < m) = true := decide_eq_true (by omega)
        rw [HF.out (by omega)]
        go_enter Tryd.func75, Tryd.ntmps75
        go_wp2
        go_ret2
        exact ⟨none, rfl, (by (try show Ex _ _); repeat (first | (with_reducible exact ex_refl _) | (with_reducible assumption) | (with_reducible refine ex_drewL ?_) | (with_reducible refine ex_appR ?_ _) | (with_reducible refine ex_wx ?_ _) | (with_reducible refine ex_drew ?_) | (with_reducible refine ex_alloc ?_ _))), rfl⟩
    · have t2 : decide (m < 1) = true := decide_eq_true (by omega)
      rw [HF.out (by omega)]
      go_enter Tryd.func75, Tryd.ntmps75
      go_wp2
      go_ret2
      exact ⟨none, rfl, (by (try show Ex _ _); repeat (first | (with_reducible exact ex_refl _) | (with_reducible assumption) | (with_reducible refine ex_drewL ?_) | (with_reducible refine ex_appR ?_ _) | (with_reducible refine ex_wx ?_ _) | (with_reducible refine ex_drew ?_) | (with_reducible refine ex_alloc ?_ _))), rfl⟩
  · have t1 : decide ((1024 : Int) < n) = true := decide_eq_true (by omega)
    have t11 : decide (1024 < n) = true := decide_eq_true (by omega)
    rw [HF.out (by omega)]
    go_enter Tryd.func75, Tryd.ntmps75
    go_wp2
    go_ret2
    exact ⟨none, rfl, (by (try show Ex _ _); repeat (first | (with_reducible exact ex_refl _) | (with_reducible assumption) | (with_reducible refine ex_drewL ?_) | (with_reducible refine ex_appR ?_ _) | (with_reducible refine ex_wx ?_ _) | (with_reducible refine ex_drew ?_) | (with_reducible refine ex_alloc ?_ _))), rfl⟩
theorem extends_bc {w : World} (W : Int) (sv : Value) (m : Int) (old : Dg) (pv : Value) (hp : pv.oneCell' = true) (r : Bool × Cl) (H : ∀ w', Ex w w' → Calls Tryd.prog 75 #[I W, sv, .agg (growR m old pv)] w' (PostBC w' r)) :
    Calls Tryd.prog 41 #[I W, sv, .agg (growR m old pv)] w (Post w (.bool r.1)) := by
  have HH := Lib.hid H
  clear H
  go_enter Tryd.func41, Tryd.ntmps41
  go_wp2_with (go_at_call 75; (with_reducible refine (HH.out _ (by (try show Ex _ _); repeat (first | (with_reducible exact ex_refl _) | (with_reducible assumption) | (with_reducible refine ex_drewL ?_) | (with_reducible refine ex_appR ?_ _) | (with_reducible refine ex_wx ?_ _) | (with_reducible refine ex_drew ?_) | (with_reducible refine ex_alloc ?_ _)))).mono ?_); rintro e w2 ⟨qv, rfl, k2, hc2⟩)
  go_ret
  exact post_mk rfl (ex_trans (by (try show Ex _ _); repeat (first | (with_reducible exact ex_refl _) | (with_reducible assumption) | (with_reducible refine ex_drewL ?_) | (with_reducible refine ex_appR ?_ _) | (with_reducible refine ex_wx ?_ _) | (with_reducible refine ex_drew ?_) | (with_reducible refine ex_alloc ?_ _))) k2)
set_option maxHeartbeats 1000000 in
theorem extendT_any {w0 : World} (G : Glob w0) (W : Int) (l : List (List UInt8)) (la : Option Addr) (lc : Nat) (m : Int) (old : Dg) (path : List Dg) (pa : Option Addr) (pc : Nat) (w : World)
    (hlc : l.length ≤ lc) (hlm : lc ≤ maxLen) (hls : l.length ≤ 1024 → SlLs w la l ∧ ShortL l) (hpc : path.length ≤ pc) (hpm : pc ≤ maxLen) (hpath : SlD w pa path) (k0 : Ex w0 w) :
    Calls Tryd.prog 39 #[I W, .slice la l.length lc, .agg (growR m old (.slice pa path.length pc))] w fun e w' => ∃ sa sb, e = .returned (.tuple #[.agg #[sa, sb], .bool (extT W l m old path).isSome]) ∧ Ex w w' ∧ ClS w' sa sb (extT W l m old path) := by
  have HI : Hid (∀ w', Ex w w' → Calls Tryd.prog 75 #[I W, .slice la l.length lc, .agg (growR m old (.slice pa path.length pc))] w' (PostBC w' (extC W l m old path))) :=
    Lib.hid fun w' k => extended_any G W l la lc m old path pa pc w' hlc hlm (fun h => ⟨(hls h).1.ex k, (hls h).2⟩) hpc hpm (hpath.ex k) (ex_trans k0 k)
  have HT := Lib.hid (fun b c pv w h => told_s b c pv w h)
  have hit := ext_true (W := W) (l := l) (m := m) (old := old) (proof := path)
  unfold extT
  generalize extC W l m old path = r at HI hit ⊢
  obtain ⟨r, c⟩ := r
  simp only at HI hit ⊢
  cases r with
  | false =>
    have HI2 : Hid (∀ w', Ex w w' → Calls Tryd.prog 75 #[I W, .slice la l.length lc, .agg (growR m old (.slice pa path.length pc))] w' (PostBC w' (false, c))) := HI
    rw [Bool.false_and]
    clear hit hls hpath
    go_enter Tryd.func39, Tryd.ntmps39
    go_wp2_with (go_at_call 75; (with_reducible refine (HI2.out _ (by (try show Ex _ _); repeat (first | (with_reducible exact ex_refl _) | (with_reducible assumption) | (with_reducible refine ex_drewL ?_) | (with_reducible refine ex_appR ?_ _) | (with_reducible refine ex_wx ?_ _) | (with_reducible refine ex_drew ?_) | (with_reducible refine ex_alloc ?_ _)))).mono ?_); rintro e w2 ⟨qv, rfl, ⟨X, rfl⟩, hc2⟩; dsimp only)
    refine wp_region_seqA (w.alloc (.cells (growR m old (.slice pa path.length pc)) 79)) [(0, true), (1, true), (2, true), (3, true), (4, true), (5, true), (6, true), (7, true), (8, true), (12, true), (9, false), (10, true), (11, true), (13, false), (14, true), (15, true), (16, false), (17, true)] (by (try show Ex _ _); repeat (first | (with_reducible exact ex_refl _) | (with_reducible assumption) | (with_reducible refine ex_drewL ?_) | (with_reducible refine ex_appR ?_ _) | (with_reducible refine ex_wx ?_ _) | (with_reducible refine ex_drew ?_) | (with_reducible refine ex_alloc ?_ _))) (by kernel_rfl) (by kernel_rfl) (fun _ _ d _ _ h => by cases d <;> exact h) ?_
    simp only [List.map_cons, List.map_nil, nth]
    repeat (first | ((with_reducible refine wpSeq_look ?_); go_big_quiet_step (fail); (with_reducible refine wpQuiet_nil ?_)) | ((with_reducible refine wpSeq_effF ?_ ?_); (focus rfl); go_simp) | ((with_reducible refine wpSeq_eff ?_ ?_); (focus rfl); (try dsimp only); go_wp2_with ((go_at_call 59; (with_reducible refine (HT.out _ _ _ _ (ClV.ex hc2 (by (try show Ex _ _); repeat (first | (with_reducible exact ex_refl _) | (with_reducible assumption) | (with_reducible refine ex_drewL ?_) | (with_reducible refine ex_appR ?_ _) | (with_reducible refine ex_wx ?_ _) | (with_reducible refine ex_drew ?_) | (with_reducible refine ex_alloc ?_ _))))).mono ?_); rintro e w3 ⟨sa, sb, rfl, ⟨X3, rfl⟩, hs⟩; obtain ⟨o1, o2⟩ := hs.one; replace hs := Lib.hid hs)); refine mixQ_mk (by (try show Ex _ _); repeat (first | (with_reducible exact ex_refl _) | (with_reducible assumption) | (with_reducible refine ex_drewL ?_) | (with_reducible refine ex_appR ?_ _) | (with_reducible refine ex_wx ?_ _) | (with_reducible refine ex_drew ?_) | (with_reducible refine ex_alloc ?_ _))) ?_))
    refine wpSeq_nil ?_
    go_wp2
    exact ret_rowV (cs := #[sa, sb]) Tryd.results39 Tryd.underlying37 rfl info_clash rfl (by simp [go_sem]) rfl rfl ⟨_, _, rfl, (by (try show Ex _ _); repeat (first | (with_reducible exact ex_refl _) | (with_reducible assumption) | (with_reducible refine ex_drewL ?_) | (with_reducible refine ex_appR ?_ _) | (with_reducible refine ex_wx ?_ _) | (with_reducible refine ex_drew ?_) | (with_reducible refine ex_alloc ?_ _))), by have h := hs.out; simp only [wx_wx, wx_drew] at h; exact h.turn (by decide)⟩
  | true =>
    obtain ⟨hl1, hi1, hi2, hw1, hw2⟩ := hit rfl
    obtain ⟨q, rfl⟩ : ∃ q : Nat, m = q := ⟨m.toNat, by omega⟩
    obtain ⟨N, rfl⟩ : ∃ N : Nat, W = N := ⟨W.toNat, by omega⟩
    obtain ⟨g, off, rfl, hg, hcell⟩ := (hls hl1).1.pos (by omega)
    rw [Int.toNat_natCast, Int.toNat_natCast]
    have HR : Hid (∀ w', Ex w w' → Calls Tryd.prog 76 #[I N, .slice (some ⟨g, off, none⟩) q lc] w' (Post w' (.agg (rowB 32 (dF (rootC (sumW N) (l.take q))))))) := Lib.hid fun w' k => by
      have := wroot_any G N (by omega) (l.take q) (some ⟨g, off, none⟩) lc w' (by rw [List.length_take]; omega) (by rw [List.length_take]; omega) hlm (((hls hl1).1.take _).ex k) (fun b hb => (hls hl1).2 b (List.mem_of_mem_take hb)) (ex_trans k0 k)
      rwa [show (l.take q).length = q by rw [List.length_take]; omega] at this
    have HI2 : Hid (∀ w', Ex w w' → Calls Tryd.prog 75 #[I N, .slice (some ⟨g, off, none⟩) l.length lc, .agg (growR q old (.slice pa path.length pc))] w' (PostBC w' (true, c))) := HI
    rw [Bool.true_and]
    have he := eqD old (rootC (sumW N) (l.take q))
    generalize decide (old = rootC (sumW N) (l.take q)) = bb at he ⊢
    generalize rootC (sumW N) (l.take q) = R at HR he
    clear hit hls hpath hcell
    generalize l.length = n at *
    generalize path.length = pn at *
    unfold maxLen at hlm
    have e3 : ¬ lc = q ∨ lc = q := by omega
    clear e3
    have e4 : (q : Int) ≤ lc := by omega
    go_enter Tryd.func39, Tryd.ntmps39
    go_wp2_with (go_at_call 75; (with_reducible refine (HI2.out _ (by (try show Ex _ _); repeat (first | (with_reducible exact ex_refl _) | (with_reducible assumption) | (with_reducible refine ex_drewL ?_) | (with_reducible refine ex_appR ?_ _) | (with_reducible refine ex_wx ?_ _) | (with_reducible refine ex_drew ?_) | (with_reducible refine ex_alloc ?_ _)))).mono ?_); rintro e w2 ⟨qv, rfl, ⟨X, rfl⟩, hc2⟩; dsimp only)
    refine wp_region_seqA (w.alloc (.cells (growR q old (.slice pa pn pc)) 79)) [(0, true), (1, true), (2, true), (3, true), (4, true), (5, true), (6, true), (7, true), (8, true), (12, true), (9, false), (10, true), (11, true), (13, false), (14, true), (15, true), (16, false), (17, true)] (by (try show Ex _ _); repeat (first | (with_reducible exact ex_refl _) | (with_reducible assumption) | (with_reducible refine ex_drewL ?_) | (with_reducible refine ex_appR ?_ _) | (with_reducible refine ex_wx ?_ _) | (with_reducible refine ex_drew ?_) | (with_reducible refine ex_alloc ?_ _))) (by kernel_rfl) (by kernel_rfl) (fun _ _ d _ _ h => by cases d <;> exact h) ?_
    simp only [List.map_cons, List.map_nil, nth]
    repeat (first | ((with_reducible refine wpSeq_look ?_); go_big_quiet_step (fail); (with_reducible refine wpQuiet_nil ?_)) | ((with_reducible refine wpSeq_effF ?_ ?_); (focus rfl); go_simp) | ((with_reducible refine wpSeq_eff ?_ ?_); (focus rfl); (try dsimp only); go_wp2_with (first | (go_at_call 76; (with_reducible refine (HR.out _ (by (try show Ex _ _); repeat (first | (with_reducible exact ex_refl _) | (with_reducible assumption) | (with_reducible refine ex_drewL ?_) | (with_reducible refine ex_appR ?_ _) | (with_reducible refine ex_wx ?_ _) | (with_reducible refine ex_drew ?_) | (with_reducible refine ex_alloc ?_ _)))).mono ?_); rintro e w3 ⟨rfl, X2, rfl⟩) | (go_at_call 59; (with_reducible refine (HT.out _ _ _ _ (ClV.ex hc2 (by (try show Ex _ _); repeat (first | (with_reducible exact ex_refl _) | (with_reducible assumption) | (with_reducible refine ex_drewL ?_) | (with_reducible refine ex_appR ?_ _) | (with_reducible refine ex_wx ?_ _) | (with_reducible refine ex_drew ?_) | (with_reducible refine ex_alloc ?_ _))))).mono ?_); rintro e w3 ⟨sa, sb, rfl, ⟨X3, rfl⟩, hs⟩; obtain ⟨o1, o2⟩ := hs.one; replace hs := Lib.hid hs)); refine mixQ_mk (by (try show Ex _ _); repeat (first | (with_reducible exact ex_refl _) | (with_reducible assumption) | (with_reducible refine ex_drewL ?_) | (with_reducible refine ex_appR ?_ _) | (with_reducible refine ex_wx ?_ _) | (with_reducible refine ex_drew ?_) | (with_reducible refine ex_alloc ?_ _))) ?_))
    refine wpSeq_nil ?_
    go_wp2
    exact ret_rowV (cs := #[sa, sb]) Tryd.results39 Tryd.underlying37 rfl info_clash rfl (by simp [go_sem]) rfl rfl ⟨_, _, rfl, (by (try show Ex _ _); repeat (first | (with_reducible exact ex_refl _) | (with_reducible assumption) | (with_reducible refine ex_drewL ?_) | (with_reducible refine ex_appR ?_ _) | (with_reducible refine ex_wx ?_ _) | (with_reducible refine ex_drew ?_) | (with_reducible refine ex_alloc ?_ _))), by have h := hs.out; simp only [wx_wx, wx_drew] at h; exact h.turn (by decide)⟩
end Go.Proofs.YtcdocklbpfdmeaaDoor
