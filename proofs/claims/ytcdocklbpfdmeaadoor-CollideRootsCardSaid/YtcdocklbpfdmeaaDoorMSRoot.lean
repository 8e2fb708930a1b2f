import Derived.Test.YtcdocklbpfdmeaaDoorMWhole

/- Root of pairs: both texts. -/
set_option linter.unusedSimpArgs false
set_option linter.unusedVariables false
set_option maxRecDepth 20000
namespace Go.Proofs.YtcdocklbpfdmeaaDoor
open Go.RowKit
@[go_sem] theorem lit_z32 : Value.agg #[.int .u8 0, .int .u8 0, .int .u8 0, .int .u8 0, .int .u8 0, .int .u8 0, .int .u8 0, .int .u8 0, .int .u8 0, .int .u8 0, .int .u8 0, .int .u8 0, .int .u8 0, .int .u8 0, .int .u8 0, .int .u8 0, .int .u8 0, .int .u8 0, .int .u8 0, .int .u8 0, .int .u8 0, .int .u8 0, .int .u8 0, .int .u8 0, .int .u8 0, .int .u8 0, .int .u8 0, .int .u8 0, .int .u8 0, .int .u8 0, .int .u8 0, .int .u8 0] = .agg (rowB 32 fun _ => 0) := by kernel_rfl
theorem ex_cell {A w : World} (k : Ex A w) {a : Addr} {v : Value} (h : A.cell? a = some v) (hb : a.block < A.heap.size) : w.cell? a = some v := by
  obtain ⟨X, rfl⟩ := k; rw [wx_cell _ _ _ hb]; exact h
theorem right_len {l : List Pr} (h : rightP l = true) : l.length ≤ 200 := by
  rcases Nat.lt_or_ge 200 l.length with h2 | h2
  · have := right_iff.1 h 200 h2
    simp [badAt] at this
  · exact h2
theorem right_size {l : List Pr} (h : rightP l = true) {i : Nat} (hi : i < l.length) : 1 ≤ (prAt l i).1.size ∧ (prAt l i).1.size ≤ 200 ∧ (prAt l i).2.size ≤ 1000 := by
  have h1 := right_iff.1 h i hi
  have h2 : ¬ ((prAt l i).1.size < 1 ∨ 200 < (prAt l i).1.size ∨ 1000 < (prAt l i).2.size ∨ (0 < i ∧ ltS (prAt l (i - 1)).1 (prAt l i).1 = false) ∨ i = 200) := fun hc => by
    rw [(bad_iff l i).2 hc] at h1; cases h1
  omega
/-- A closure over pairs that was made. -/
def PostWh (a : Option Addr) (n c : Nat) (W : World) (e : Ending) (w' : World) : Prop := ∃ b, e = .returned (.func (.func 104) #[] #[.pointer (some ⟨b, 0, none⟩)]) ∧ w'.cell? ⟨b, 0, none⟩ = some (.slice a n c) ∧ b < w'.heap.size ∧ ∃ X, w' = wx W X
theorem whole_post (a : Option Addr) (n c : Nat) (w : World) : Calls Tryd.prog 65 #[.slice a n c] w (PostWh a n c w) :=
  (whole_any a n c w).mono fun e w' ⟨h1, h2⟩ => ⟨w.heap.size, h1, by subst h2; simp [go_sem], by subst h2; simp [go_sem], by subst h2; exact (by (try show Ex _ _); repeat (first | (with_reducible exact ex_refl _) | (with_reducible assumption) | (with_reducible refine ex_drewL ?_) | (with_reducible refine ex_appR ?_ _) | (with_reducible refine ex_wx ?_ _) | (with_reducible refine ex_drew ?_) | (with_reducible refine ex_alloc ?_ _)))⟩
def rootR (l : List Pr) : Dg := if rightP l then rootP l else zeroD
set_option maxHeartbeats 1000000 in
theorem sroot_any {w0 : World} (G : Glob w0) (l : List Pr) (a : Option Addr) (c : Nat) (w : World) (k0 : Ex w0 w) (hc : l.length ≤ c) (hcm : c ≤ maxLen) (hs : SlP w a l) :
    Calls Tryd.prog 19 #[.slice a l.length c] w (Post w (.tuple #[.agg (rowB 32 (dF (rootR l))), I (chkP l)])) := by
  replace G := G.ex k0
  clear k0
  have HC : Hid (∀ w', Ex w w' → Calls Tryd.prog 62 #[.slice a l.length c] w' (Post w' (I (chkP l)))) := Lib.hid fun w' k => Check_any l a c w' hc hcm (hs.ex k)
  unfold rootR
  unfold chkP at HC ⊢
  cases hr : rightP l with
  | false =>
    rw [hr] at HC
    simp only [Bool.false_eq_true, if_false] at HC ⊢
    rw [row_zero]
    generalize l.length = n at HC hc
    clear hs hr
    go_enter Tryd.func19, Tryd.ntmps19
    go_wp2_with (go_at_call 62; (with_reducible refine (HC.out _ (by (try show Ex _ _); repeat (first | (with_reducible exact ex_refl _) | (with_reducible assumption) | (with_reducible refine ex_drewL ?_) | (with_reducible refine ex_appR ?_ _) | (with_reducible refine ex_wx ?_ _) | (with_reducible refine ex_drew ?_) | (with_reducible refine ex_alloc ?_ _)))).mono ?_); rintro e w2 ⟨rfl, X, rfl⟩)
    exact ret_rowV (cs := rowB 32 fun _ => 0) (v := I 250) Tryd.results19 Tryd.underlying46 rfl info_id rfl (by simp [go_sem]) rfl rfl (post_mk rfl (by (try show Ex _ _); repeat (first | (with_reducible exact ex_refl _) | (with_reducible assumption) | (with_reducible refine ex_drewL ?_) | (with_reducible refine ex_appR ?_ _) | (with_reducible refine ex_wx ?_ _) | (with_reducible refine ex_drew ?_) | (with_reducible refine ex_alloc ?_ _))))
  | true =>
    rw [hr] at HC
    simp only [if_true] at HC ⊢
    have hl2 := right_len hr
    clear hr
    rcases Nat.eq_zero_or_pos l.length with h0 | hpos
    · obtain rfl := List.eq_nil_of_length_eq_zero h0
      have HK := Lib.hid (fun w' (k : Ex w w') => scrown_any G 0 zeroD w' k)
      have hR : crownD 0 zeroD = rootP [] := rfl
      rw [hR, row_zero] at HK
      generalize rootP [] = R at HK ⊢
      rw [List.length_nil] at HC ⊢
      clear hs hR h0
      go_enter Tryd.func19, Tryd.ntmps19
      go_wp2_with (first | (go_at_call 62; (with_reducible refine (HC.out _ (by (try show Ex _ _); repeat (first | (with_reducible exact ex_refl _) | (with_reducible assumption) | (with_reducible refine ex_drewL ?_) | (with_reducible refine ex_appR ?_ _) | (with_reducible refine ex_wx ?_ _) | (with_reducible refine ex_drew ?_) | (with_reducible refine ex_alloc ?_ _)))).mono ?_); rintro e w2 ⟨rfl, X, rfl⟩) | (go_at_call 63; (with_reducible refine (HK.out _ (by (try show Ex _ _); repeat (first | (with_reducible exact ex_refl _) | (with_reducible assumption) | (with_reducible refine ex_drewL ?_) | (with_reducible refine ex_appR ?_ _) | (with_reducible refine ex_wx ?_ _) | (with_reducible refine ex_drew ?_) | (with_reducible refine ex_alloc ?_ _)))).mono ?_); rintro e w2 ⟨rfl, X, rfl⟩))
      exact ret_rowV (cs := rowB 32 (dF R)) (v := I 0) Tryd.results19 Tryd.underlying46 rfl info_id rfl (by simp [go_sem]) rfl rfl (post_mk rfl (by (try show Ex _ _); repeat (first | (with_reducible exact ex_refl _) | (with_reducible assumption) | (with_reducible refine ex_drewL ?_) | (with_reducible refine ex_appR ?_ _) | (with_reducible refine ex_wx ?_ _) | (with_reducible refine ex_drew ?_) | (with_reducible refine ex_alloc ?_ _))))
    · have HK := Lib.hid (fun w' (k : Ex w w') => scrown_any G l.length (topP l) w' k)
      have hR : crownD l.length (topP l) = rootP l := rfl
      rw [hR] at HK
      have hW : Hid (∀ W b, Ex w W → W.cell? ⟨b, 0, none⟩ = some (.slice a l.length c) → b < W.heap.size → Calls Tryd.prog 64 #[I 0, I l.length, .func (.func 104) #[] #[.pointer (some ⟨b, 0, none⟩)]] W (Post W (.agg (rowB 32 (dF (topP l)))))) := Lib.hid fun W b k h1 h2 => by
        have := climbW_any l a c b W (G.ex k) (by omega) hc hcm (hs.ex k) h1 h2 0 l.length hpos (by omega)
        rwa [List.drop_zero, List.take_length] at this
      generalize rootP l = R at HK ⊢
      generalize topP l = T at HK hW
      generalize l.length = n at HC hc HK hW hpos hl2
      clear hs hR
      have e0 : ((n : Int) == 0) = false := beq_eq_false_iff_ne.2 (by omega)
      have HWh := Lib.hid (fun w' => whole_post a n c w')
      go_enter Tryd.func19, Tryd.ntmps19
      go_wp2_with (first | (go_at_call 62; (with_reducible refine (HC.out _ (by (try show Ex _ _); repeat (first | (with_reducible exact ex_refl _) | (with_reducible assumption) | (with_reducible refine ex_drewL ?_) | (with_reducible refine ex_appR ?_ _) | (with_reducible refine ex_wx ?_ _) | (with_reducible refine ex_drew ?_) | (with_reducible refine ex_alloc ?_ _)))).mono ?_); rintro e w2 ⟨rfl, X, rfl⟩) | (go_at_call 63; (with_reducible refine (HK.out _ (by (try show Ex _ _); repeat (first | (with_reducible exact ex_refl _) | (with_reducible assumption) | (with_reducible refine ex_drewL ?_) | (with_reducible refine ex_appR ?_ _) | (with_reducible refine ex_wx ?_ _) | (with_reducible refine ex_drew ?_) | (with_reducible refine ex_alloc ?_ _)))).mono ?_); rintro e w2 ⟨rfl, X, rfl⟩) | (go_at_call 65; (with_reducible refine (HWh.out _).mono ?_); rintro e w2 ⟨b, rfl, kb1, kb2, X2, rfl⟩; (try simp only [wx_wx] at kb1 kb2)) | (go_at_call 64; (with_reducible refine (hW.out _ _ (by (try show Ex _ _); repeat (first | (with_reducible exact ex_refl _) | (with_reducible assumption) | (with_reducible refine ex_drewL ?_) | (with_reducible refine ex_appR ?_ _) | (with_reducible refine ex_wx ?_ _) | (with_reducible refine ex_drew ?_) | (with_reducible refine ex_alloc ?_ _))) kb1 kb2).mono ?_); rintro e w2 ⟨rfl, X3, rfl⟩))
      exact ret_rowV (cs := rowB 32 (dF R)) (v := I 0) Tryd.results19 Tryd.underlying46 rfl info_id rfl (by simp [go_sem]) rfl rfl (post_mk rfl (by (try show Ex _ _); repeat (first | (with_reducible exact ex_refl _) | (with_reducible assumption) | (with_reducible refine ex_drewL ?_) | (with_reducible refine ex_appR ?_ _) | (with_reducible refine ex_wx ?_ _) | (with_reducible refine ex_drew ?_) | (with_reducible refine ex_alloc ?_ _))))
end Go.Proofs.YtcdocklbpfdmeaaDoor
