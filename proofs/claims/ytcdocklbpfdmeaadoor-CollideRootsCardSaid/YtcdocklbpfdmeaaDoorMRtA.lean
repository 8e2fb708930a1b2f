import Derived.Test.YtcdocklbpfdmeaaDoorMForkJ
import Derived.Test.YtcdocklbpfdmeaaDoorMChk
import Derived.Test.YtcdocklbpfdmeaaDoorMSRoot
import Derived.Test.YtcdocklbpfdmeaaDoorMCoR
import Derived.Test.YtcdocklbpfdmeaaDoorMCoD

/- Collide: Root and Crown, of the package and of the document. -/
set_option linter.unusedSimpArgs false
set_option linter.unusedVariables false
set_option linter.unnecessarySimpa false
set_option maxRecDepth 20000
namespace Go.Proofs.YtcdocklbpfdmeaaDoor
open Go.RowKit
def zeroV (e : Int) : Value := .tuple #[.agg (rowB 32 fun _ => 0), I e]
def rootV (W : Int) (l : List (List UInt8)) : Value := if wideB W = false then zeroV 2 else if 1024 < l.length then zeroV 3 else .tuple #[.agg (rowB 32 (dF (rootC (sumW W.toNat) l))), I 0]
set_option maxHeartbeats 1000000 in
theorem wRoot_any {w0 : World} (G : Glob w0) (W : Int) (l : List (List UInt8)) (a : Option Addr) (c : Nat) (w : World) (hc : l.length ≤ c) (hcm : c ≤ maxLen) (hs : l.length ≤ 1024 → SlLs w a l ∧ ShortL l) (k0 : Ex w0 w) :
    Calls Tryd.prog 42 #[I W, .slice a l.length c] w (Post w (rootV W l)) := by
  have HW := Lib.hid fun w' => wide_any W w'
  unfold rootV
  cases hw : wideB W with
  | false =>
    rw [hw] at HW
    rw [if_pos rfl]
    clear hs
    generalize l.length = n at *
    unfold maxLen at hcm
    go_enter Tryd.func42, Tryd.ntmps42
    go_wp2_with (go_at_call 60; (with_reducible refine (HW.out _).mono ?_); rintro e w2 ⟨rfl, X, rfl⟩)
    exact ret_rowV (cs := rowB 32 fun _ => 0) (v := I 2) Tryd.results42 Tryd.underlying46 rfl info_id rfl (by simp [go_sem]) rfl rfl (post_mk rfl (by (try show Ex _ _); repeat (first | (with_reducible exact ex_refl _) | (with_reducible assumption) | (with_reducible refine ex_drewL ?_) | (with_reducible refine ex_appR ?_ _) | (with_reducible refine ex_wx ?_ _) | (with_reducible refine ex_drew ?_) | (with_reducible refine ex_alloc ?_ _))))
  | true =>
    rw [hw] at HW
    rw [if_neg (by decide)]
    by_cases hl : 1024 < l.length
    · rw [if_pos hl]
      clear hs
      have t1 : decide ((1024 : Int) < l.length) = true := decide_eq_true (by omega)
      generalize l.length = n at *
      unfold maxLen at hcm
      go_enter Tryd.func42, Tryd.ntmps42
      go_wp2_with (go_at_call 60; (with_reducible refine (HW.out _).mono ?_); rintro e w2 ⟨rfl, X, rfl⟩)
      exact ret_rowV (cs := rowB 32 fun _ => 0) (v := I 3) Tryd.results42 Tryd.underlying46 rfl info_id rfl (by simp [go_sem]) rfl rfl (post_mk rfl (by (try show Ex _ _); repeat (first | (with_reducible exact ex_refl _) | (with_reducible assumption) | (with_reducible refine ex_drewL ?_) | (with_reducible refine ex_appR ?_ _) | (with_reducible refine ex_wx ?_ _) | (with_reducible refine ex_drew ?_) | (with_reducible refine ex_alloc ?_ _))))
    · rw [if_neg hl]
      have hw2 := of_decide_eq_true hw
      obtain ⟨N, rfl⟩ : ∃ N : Nat, W = N := ⟨W.toNat, by omega⟩
      rw [Int.toNat_natCast]
      have HR := Lib.hid fun w' (k : Ex w w') => wroot_any G N (by omega) l a c w' (by omega) hc hcm ((hs (by omega)).1.ex k) (hs (by omega)).2 (ex_trans k0 k)
      have t1 : decide ((1024 : Int) < l.length) = false := decide_eq_false (by omega)
      generalize rootC (sumW N) l = z at HR ⊢
      clear hs hw2 hw
      generalize l.length = n at *
      unfold maxLen at hcm
      go_enter Tryd.func42, Tryd.ntmps42
      go_wp2_with (first | (go_at_call 60; (with_reducible refine (HW.out _).mono ?_); rintro e w2 ⟨rfl, X, rfl⟩) | (go_at_call 76; (with_reducible refine (HR.out _ (by (try show Ex _ _); repeat (first | (with_reducible exact ex_refl _) | (with_reducible assumption) | (with_reducible refine ex_drewL ?_) | (with_reducible refine ex_appR ?_ _) | (with_reducible refine ex_wx ?_ _) | (with_reducible refine ex_drew ?_) | (with_reducible refine ex_alloc ?_ _)))).mono ?_); rintro e w2 ⟨rfl, X2, rfl⟩))
      exact ret_rowV (cs := rowB 32 (dF z)) (v := I 0) Tryd.results42 Tryd.underlying46 rfl info_id rfl (by simp [go_sem]) rfl rfl (post_mk rfl (by (try show Ex _ _); repeat (first | (with_reducible exact ex_refl _) | (with_reducible assumption) | (with_reducible refine ex_drewL ?_) | (with_reducible refine ex_appR ?_ _) | (with_reducible refine ex_wx ?_ _) | (with_reducible refine ex_drew ?_) | (with_reducible refine ex_alloc ?_ _))))
theorem right_fit {l : List Pr} (h : rightP l = true) : FitL l := fun p hp => by
  obtain ⟨i, hi⟩ := List.mem_iff_getElem?.1 hp
  have := right_size h (List.getElem?_eq_some_iff.1 hi).1
  rw [prAt_mem hi] at this
  exact ⟨by omega, by omega⟩
/-- The crown of pairs. -/
def crownC (S : List UInt8 → Dg) (l : List Pr) : Dg := S (crownL l.length (topC S zeroD leafL l))
def crownV (W : Int) (l : List Pr) : Value := if wideB W = false then zeroV 2 else if rightP l = false then zeroV 250 else .tuple #[.agg (rowB 32 (dF (crownC (sumW W.toNat) l))), I 0]
theorem crownL_len (m : Nat) (d : Dg) : (crownL m d).length ≤ 1000 := by unfold crownL; simp [bytesD_len, hiL]
set_option maxHeartbeats 1000000 in
theorem wCrown_any {w0 : World} (G : Glob w0) (W : Int) (l : List Pr) (a : Option Addr) (c : Nat) (w : World) (hc : l.length ≤ c) (hcm : c ≤ maxLen) (hs : SlP w a l) (k0 : Ex w0 w) :
    Calls Tryd.prog 43 #[I W, .slice a l.length c] w (Post w (crownV W l)) := by
  have HW := Lib.hid fun w' => wide_any W w'
  have HC := Lib.hid fun w' (k : Ex w w') => Check_any l a c w' hc hcm (hs.ex k)
  unfold crownV
  unfold chkP at HC
  cases hw : wideB W with
  | false =>
    rw [hw] at HW
    rw [if_pos rfl]
    clear hs
    generalize l.length = n at *
    unfold maxLen at hcm
    go_enter Tryd.func43, Tryd.ntmps43
    go_wp2_with (go_at_call 60; (with_reducible refine (HW.out _).mono ?_); rintro e w2 ⟨rfl, X, rfl⟩)
    exact ret_rowV (cs := rowB 32 fun _ => 0) (v := I 2) Tryd.results43 Tryd.underlying46 rfl info_id rfl (by simp [go_sem]) rfl rfl (post_mk rfl (by (try show Ex _ _); repeat (first | (with_reducible exact ex_refl _) | (with_reducible assumption) | (with_reducible refine ex_drewL ?_) | (with_reducible refine ex_appR ?_ _) | (with_reducible refine ex_wx ?_ _) | (with_reducible refine ex_drew ?_) | (with_reducible refine ex_alloc ?_ _))))
  | true =>
    rw [hw] at HW
    rw [if_neg (by decide)]
    cases hr : rightP l with
    | false =>
      rw [if_pos rfl]
      rw [hr] at HC
      have HC2 : Hid (∀ w', Ex w w' → Calls Tryd.prog 62 #[.slice a l.length c] w' (Post w' (I 250))) := HC
      clear hs HC
      generalize l.length = n at *
      unfold maxLen at hcm
      go_enter Tryd.func43, Tryd.ntmps43
      go_wp2_with (first | (go_at_call 60; (with_reducible refine (HW.out _).mono ?_); rintro e w2 ⟨rfl, X, rfl⟩) | (go_at_call 62; (with_reducible refine (HC2.out _ (by (try show Ex _ _); repeat (first | (with_reducible exact ex_refl _) | (with_reducible assumption) | (with_reducible refine ex_drewL ?_) | (with_reducible refine ex_appR ?_ _) | (with_reducible refine ex_wx ?_ _) | (with_reducible refine ex_drew ?_) | (with_reducible refine ex_alloc ?_ _)))).mono ?_); rintro e w2 ⟨rfl, X2, rfl⟩))
      exact ret_rowV (cs := rowB 32 fun _ => 0) (v := I 250) Tryd.results43 Tryd.underlying46 rfl info_id rfl (by simp [go_sem]) rfl rfl (post_mk rfl (by (try show Ex _ _); repeat (first | (with_reducible exact ex_refl _) | (with_reducible assumption) | (with_reducible refine ex_drewL ?_) | (with_reducible refine ex_appR ?_ _) | (with_reducible refine ex_wx ?_ _) | (with_reducible refine ex_drew ?_) | (with_reducible refine ex_alloc ?_ _))))
    | true =>
      rw [if_neg (by decide)]
      rw [hr] at HC
      have HC2 : Hid (∀ w', Ex w w' → Calls Tryd.prog 62 #[.slice a l.length c] w' (Post w' (I 0))) := HC
      have hw2 := of_decide_eq_true hw
      obtain ⟨N, rfl⟩ : ∃ N : Nat, W = N := ⟨W.toNat, by omega⟩
      rw [Int.toNat_natCast]
      have hln := right_len hr
      have HT := Lib.hid fun w' (k : Ex w w') => wtopP_any G N (by omega) l a c w' (by omega) hc hcm (hs.ex k) (right_fit hr) (ex_trans k0 k)
      have HCr := Lib.hid fun w' => crownB_any l.length (by omega) (topC (sumW N) zeroD leafL l) w'
      have HS := Lib.hid fun w' v (k : Ex w w') (h : OwnU w' v (crownL l.length (topC (sumW N) zeroD leafL l))) => wsum_any G N (by omega) (ex_trans k0 k) h.slt (by have := crownL_len l.length (topC (sumW N) zeroD leafL l); omega)
      unfold crownC
      generalize sumW N (crownL l.length (topC (sumW N) zeroD leafL l)) = z at HS ⊢
      generalize crownL l.length (topC (sumW N) zeroD leafL l) = cr at HCr HS
      generalize topC (sumW N) zeroD leafL l = tp at HT HCr
      clear hs hw2 hw HC hr
      generalize l.length = n at *
      unfold maxLen at hcm
      go_enter Tryd.func43, Tryd.ntmps43
      go_wp2_with (first | (go_at_call 60; (with_reducible refine (HW.out _).mono ?_); rintro e w2 ⟨rfl, X, rfl⟩) | (go_at_call 62; (with_reducible refine (HC2.out _ (by (try show Ex _ _); repeat (first | (with_reducible exact ex_refl _) | (with_reducible assumption) | (with_reducible refine ex_drewL ?_) | (with_reducible refine ex_appR ?_ _) | (with_reducible refine ex_wx ?_ _) | (with_reducible refine ex_drew ?_) | (with_reducible refine ex_alloc ?_ _)))).mono ?_); rintro e w2 ⟨rfl, X2, rfl⟩) | (go_at_call 78; (with_reducible refine (HT.out _ (by (try show Ex _ _); repeat (first | (with_reducible exact ex_refl _) | (with_reducible assumption) | (with_reducible refine ex_drewL ?_) | (with_reducible refine ex_appR ?_ _) | (with_reducible refine ex_wx ?_ _) | (with_reducible refine ex_drew ?_) | (with_reducible refine ex_alloc ?_ _)))).mono ?_); rintro e w2 ⟨rfl, X3, rfl⟩) | (go_at_call 77; (with_reducible refine (HCr.out _).mono ?_); rintro e w2 ⟨v, rfl, hv, X4, rfl⟩; (try simp only [wx_wx, wx_drew] at hv); replace hv := Lib.hid hv) | (go_at_call 61; (with_reducible refine (HS.out _ _ (by (try show Ex _ _); repeat (first | (with_reducible exact ex_refl _) | (with_reducible assumption) | (with_reducible refine ex_drewL ?_) | (with_reducible refine ex_appR ?_ _) | (with_reducible refine ex_wx ?_ _) | (with_reducible refine ex_drew ?_) | (with_reducible refine ex_alloc ?_ _))) hv.out).mono ?_); rintro e w2 ⟨rfl, X5, rfl⟩))
      exact ret_rowV (cs := rowB 32 (dF z)) (v := I 0) Tryd.results43 Tryd.underlying46 rfl info_id rfl (by simp [go_sem]) rfl rfl (post_mk rfl (by (try show Ex _ _); repeat (first | (with_reducible exact ex_refl _) | (with_reducible assumption) | (with_reducible refine ex_drewL ?_) | (with_reducible refine ex_appR ?_ _) | (with_reducible refine ex_wx ?_ _) | (with_reducible refine ex_drew ?_) | (with_reducible refine ex_alloc ?_ _))))
set_option maxHeartbeats 1000000 in
theorem refCrown_any (W : Nat) (hW : W ≤ 256) (l : List Pr) (a : Option Addr) (c : Nat) (w : World) (hr : rightP l = true) (hc : l.length ≤ c) (hcm : c ≤ maxLen) (hs : SlP w a l) :
    Calls Tryd.prog 46 #[I W, .slice a l.length c] w (Post w (.agg (rowB 32 (dF (crownC (sumW W) l))))) := by
  have hln := right_len hr
  have HT := Lib.hid fun w' (k : Ex w w') => reftopN_any W hW l.length l a c w' rfl (by omega) hc hcm (hs.ex k) (right_fit hr)
  have HCr := Lib.hid fun w' => refcrownB_any l.length (by omega) (topC (sumW W) zeroD leafL l) w'
  have HS := Lib.hid fun w' v (h : OwnU w' v (crownL l.length (topC (sumW W) zeroD leafL l))) => digest_any W hW h.slt (by have := crownL_len l.length (topC (sumW W) zeroD leafL l); omega)
  unfold crownC
  generalize sumW W (crownL l.length (topC (sumW W) zeroD leafL l)) = z at HS ⊢
  generalize crownL l.length (topC (sumW W) zeroD leafL l) = cr at HCr HS
  generalize topC (sumW W) zeroD leafL l = tp at HT HCr
  clear hs hr
  generalize l.length = n at *
  unfold maxLen at hcm
  go_enter Tryd.func46, Tryd.ntmps46
  go_wp2_with (first | (go_at_call 83; (with_reducible refine (HT.out _ (by (try show Ex _ _); repeat (first | (with_reducible exact ex_refl _) | (with_reducible assumption) | (with_reducible refine ex_drewL ?_) | (with_reducible refine ex_appR ?_ _) | (with_reducible refine ex_wx ?_ _) | (with_reducible refine ex_drew ?_) | (with_reducible refine ex_alloc ?_ _)))).mono ?_); rintro e w2 ⟨rfl, X3, rfl⟩) | (go_at_call 82; (with_reducible refine (HCr.out _).mono ?_); rintro e w2 ⟨v, rfl, hv, X4, rfl⟩; (try simp only [wx_wx, wx_drew] at hv); replace hv := Lib.hid hv) | (go_at_call 26; (with_reducible refine (HS.out _ _ hv.out).mono ?_); rintro e w2 ⟨rfl, X5, rfl⟩))
  exact ret_row (cs := rowB 32 (dF z)) Tryd.results46 Tryd.underlying46 rfl info_id rfl (by simp [go_sem]) rfl (post_mk rfl (by (try show Ex _ _); repeat (first | (with_reducible exact ex_refl _) | (with_reducible assumption) | (with_reducible refine ex_drewL ?_) | (with_reducible refine ex_appR ?_ _) | (with_reducible refine ex_wx ?_ _) | (with_reducible refine ex_drew ?_) | (with_reducible refine ex_alloc ?_ _))))
end Go.Proofs.YtcdocklbpfdmeaaDoor
