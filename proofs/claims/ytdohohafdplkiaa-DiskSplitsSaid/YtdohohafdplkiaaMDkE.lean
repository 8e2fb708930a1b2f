import Derived.Test.YtdohohafdplkiaaMDkC

/- Disks: what is asked without a request; the nil disk. -/
set_option linter.unusedSimpArgs false
set_option linter.unusedVariables false
set_option maxRecDepth 20000
namespace Go.Proofs.Ytdohohafdplkiaa
open Go.RowKit
theorem len_nil (w : World) : Calls Try.prog 30 #[.pointer none] w (Post w (I 0)) := by
  go_enter Try.func30, Try.ntmps30
  go_wp2
  go_ret
  exact post_mk' rfl (by (try show Ex _ _); repeat (first | (with_reducible exact ex_refl _) | (with_reducible assumption) | (with_reducible refine ex_drewL ?_) | (with_reducible refine ex_appR ?_ _) | (with_reducible refine ex_wx ?_ _) | (with_reducible refine ex_drew ?_) | (with_reducible refine ex_alloc ?_ _)))
theorem ops_nil (w : World) : Calls Try.prog 22 #[.pointer none] w (Post w (I 0)) := by
  go_enter Try.func22, Try.ntmps22
  go_wp2
  go_ret
  exact post_mk' rfl (by (try show Ex _ _); repeat (first | (with_reducible exact ex_refl _) | (with_reducible assumption) | (with_reducible refine ex_drewL ?_) | (with_reducible refine ex_appR ?_ _) | (with_reducible refine ex_wx ?_ _) | (with_reducible refine ex_drew ?_) | (with_reducible refine ex_alloc ?_ _)))
theorem dead_nil (w : World) : Calls Try.prog 27 #[.pointer none] w (Post w (.bool false)) := by
  go_enter Try.func27, Try.ntmps27
  go_wp2
  go_ret
  exact post_mk' rfl (by (try show Ex _ _); repeat (first | (with_reducible exact ex_refl _) | (with_reducible assumption) | (with_reducible refine ex_drewL ?_) | (with_reducible refine ex_appR ?_ _) | (with_reducible refine ex_wx ?_ _) | (with_reducible refine ex_drew ?_) | (with_reducible refine ex_alloc ?_ _)))
theorem copy_nil (w : World) : Calls Try.prog 29 #[.pointer none] w (Post w (.pointer none)) := by
  go_enter Try.func29, Try.ntmps29
  go_wp2
  go_ret
  exact post_mk' rfl (by (try show Ex _ _); repeat (first | (with_reducible exact ex_refl _) | (with_reducible assumption) | (with_reducible refine ex_drewL ?_) | (with_reducible refine ex_appR ?_ _) | (with_reducible refine ex_wx ?_ _) | (with_reducible refine ex_drew ?_) | (with_reducible refine ex_alloc ?_ _)))
theorem pend_nil (w : World) : Calls Try.prog 23 #[.pointer none] w (Post w (.slice none 0 0)) := by
  go_enter Try.func23, Try.ntmps23
  go_wp2
  go_ret
  exact post_mk' rfl (by (try show Ex _ _); repeat (first | (with_reducible exact ex_refl _) | (with_reducible assumption) | (with_reducible refine ex_drewL ?_) | (with_reducible refine ex_appR ?_ _) | (with_reducible refine ex_wx ?_ _) | (with_reducible refine ex_drew ?_) | (with_reducible refine ex_alloc ?_ _)))
theorem len_any {w : World} {L : Loc} {d : Dk} (h : DkAt w L d) : Calls Try.prog 30 #[PT L.p] w (Post w (I (d.has.length : Nat))) := by
  obtain ⟨qv, h⟩ := h.out
  obtain ⟨⟨c0, c1, c2, c3, c4, c5⟩, hf, hz⟩ := h.cells
  clear h
  go_enter Try.func30, Try.ntmps30
  go_wp2
  go_ret
  exact post_mk' rfl (by (try show Ex _ _); repeat (first | (with_reducible exact ex_refl _) | (with_reducible assumption) | (with_reducible refine ex_drewL ?_) | (with_reducible refine ex_appR ?_ _) | (with_reducible refine ex_wx ?_ _) | (with_reducible refine ex_drew ?_) | (with_reducible refine ex_alloc ?_ _)))
theorem ops_any {w : World} {L : Loc} {d : Dk} (h : DkAt w L d) : Calls Try.prog 22 #[PT L.p] w (Post w (I (d.ops : Nat))) := by
  obtain ⟨qv, h⟩ := h.out
  obtain ⟨⟨c0, c1, c2, c3, c4, c5⟩, hf, hz⟩ := h.cells
  clear h
  go_enter Try.func22, Try.ntmps22
  go_wp2
  go_ret
  exact post_mk' rfl (by (try show Ex _ _); repeat (first | (with_reducible exact ex_refl _) | (with_reducible assumption) | (with_reducible refine ex_drewL ?_) | (with_reducible refine ex_appR ?_ _) | (with_reducible refine ex_wx ?_ _) | (with_reducible refine ex_drew ?_) | (with_reducible refine ex_alloc ?_ _)))
theorem dead_any {w : World} {L : Loc} {d : Dk} (h : DkAt w L d) : Calls Try.prog 27 #[PT L.p] w (Post w (.bool d.dark)) := by
  obtain ⟨qv, h⟩ := h.out
  obtain ⟨⟨c0, c1, c2, c3, c4, c5⟩, hf, hz⟩ := h.cells
  clear h
  go_enter Try.func27, Try.ntmps27
  go_wp2
  go_ret
  exact post_mk' rfl (by (try show Ex _ _); repeat (first | (with_reducible exact ex_refl _) | (with_reducible assumption) | (with_reducible refine ex_drewL ?_) | (with_reducible refine ex_appR ?_ _) | (with_reducible refine ex_wx ?_ _) | (with_reducible refine ex_drew ?_) | (with_reducible refine ex_alloc ?_ _)))
theorem arm_nil (n : Int) (w : World) : Calls Try.prog 24 #[.pointer none, I n] w (Post w (I 1)) := by
  go_enter Try.func24, Try.ntmps24
  go_wp2_with (go_at_call 44; (with_reducible refine (lit_nil _).mono ?_); rintro e w2 ⟨rfl, X, rfl⟩)
  go_ret
  exact post_mk' rfl (by (try show Ex _ _); repeat (first | (with_reducible exact ex_refl _) | (with_reducible assumption) | (with_reducible refine ex_drewL ?_) | (with_reducible refine ex_appR ?_ _) | (with_reducible refine ex_wx ?_ _) | (with_reducible refine ex_drew ?_) | (with_reducible refine ex_alloc ?_ _)))
theorem arm_any {w : World} {L : Loc} {d : Dk} (h : DkAt w L d) (n : Int) (hn : n < 9223372036854775808) : Calls Try.prog 24 #[PT L.p, I n] w (PostD w L (armD d n).1 (I (armD d n).2)) := by
  have HL := Lib.hid (fun W (k : Ex w W) => lit_any (h.ex k))
  obtain ⟨qv, hM⟩ := h.out
  obtain ⟨⟨c0, c1, c2, c3, c4, c5⟩, hf, hz⟩ := hM.cells
  have f2 := hf 2
  have f3 := hf 3
  unfold litD at HL
  unfold armD
  replace hM := Lib.hid hM
  clear h hf
  by_cases hd : d.dark = true
  · rw [if_pos hd]
    simp only [hd, if_true] at HL
    go_enter Try.func24, Try.ntmps24
    go_wp2_with (go_at_call 44; (with_reducible refine (HL.out _ (by (try show Ex _ _); repeat (first | (with_reducible exact ex_refl _) | (with_reducible assumption) | (with_reducible refine ex_drewL ?_) | (with_reducible refine ex_appR ?_ _) | (with_reducible refine ex_wx ?_ _) | (with_reducible refine ex_drew ?_) | (with_reducible refine ex_alloc ?_ _)))).mono ?_); rintro e w2 ⟨rfl, X, rfl⟩)
    go_ret
    exact ⟨_, rfl, ⟨_, hM.out.ex (by (try show Ex _ _); repeat (first | (with_reducible exact ex_refl _) | (with_reducible assumption) | (with_reducible refine ex_drewL ?_) | (with_reducible refine ex_appR ?_ _) | (with_reducible refine ex_wx ?_ _) | (with_reducible refine ex_drew ?_) | (with_reducible refine ex_alloc ?_ _)))⟩, Dv.ofEx (by (try show Ex _ _); repeat (first | (with_reducible exact ex_refl _) | (with_reducible assumption) | (with_reducible refine ex_drewL ?_) | (with_reducible refine ex_appR ?_ _) | (with_reducible refine ex_wx ?_ _) | (with_reducible refine ex_drew ?_) | (with_reducible refine ex_alloc ?_ _)))⟩
  · rw [if_neg hd]
    simp only [hd, if_false] at HL
    have hm1 : -1 ≤ max n (-1) := by omega
    have hm2 : max n (-1) < 9223372036854775808 := by omega
    obtain ⟨m, hm⟩ : ∃ m, max n (-1) = m := ⟨_, rfl⟩
    rw [hm] at hm1 hm2 ⊢
    have hmm : (if n < -1 then (-1 : Int) else n) = m := by rw [← hm]; split <;> omega
    have hmm2 : (if (-1 : Int) < n then n else -1) = m := by rw [← hm]; split <;> omega
    go_enter Try.func24, Try.ntmps24
    go_wp2_with (go_at_call 44; (with_reducible refine (HL.out _ (by (try show Ex _ _); repeat (first | (with_reducible exact ex_refl _) | (with_reducible assumption) | (with_reducible refine ex_drewL ?_) | (with_reducible refine ex_appR ?_ _) | (with_reducible refine ex_wx ?_ _) | (with_reducible refine ex_drew ?_) | (with_reducible refine ex_alloc ?_ _)))).mono ?_); rintro e w2 ⟨rfl, X, rfl⟩)
    go_ret
    exact ⟨_, rfl, ⟨_, (hM.out.setAr hm1 hm2).ex (by (try show Ex _ _); repeat (first | (with_reducible exact ex_refl _) | (with_reducible assumption) | (with_reducible refine ex_drewL ?_) | (with_reducible refine ex_appR ?_ _) | (with_reducible refine ex_wx ?_ _) | (with_reducible refine ex_drew ?_) | (with_reducible refine ex_alloc ?_ _)))⟩, ((Dv.refl _ _).setP 2 _).grow (by (try show Ex _ _); repeat (first | (with_reducible exact ex_refl _) | (with_reducible assumption) | (with_reducible refine ex_drewL ?_) | (with_reducible refine ex_appR ?_ _) | (with_reducible refine ex_wx ?_ _) | (with_reducible refine ex_drew ?_) | (with_reducible refine ex_alloc ?_ _)))⟩
theorem fail_nil (n : Int) (w : World) : Calls Try.prog 20 #[.pointer none, I n] w (Post w (I 1)) := by
  go_enter Try.func20, Try.ntmps20
  go_wp2_with (go_at_call 44; (with_reducible refine (lit_nil _).mono ?_); rintro e w2 ⟨rfl, X, rfl⟩)
  go_ret
  exact post_mk' rfl (by (try show Ex _ _); repeat (first | (with_reducible exact ex_refl _) | (with_reducible assumption) | (with_reducible refine ex_drewL ?_) | (with_reducible refine ex_appR ?_ _) | (with_reducible refine ex_wx ?_ _) | (with_reducible refine ex_drew ?_) | (with_reducible refine ex_alloc ?_ _)))
theorem fail_any {w : World} {L : Loc} {d : Dk} (h : DkAt w L d) (n : Int) (hn : n < 9223372036854775808) : Calls Try.prog 20 #[PT L.p, I n] w (PostD w L (failD d n).1 (I (failD d n).2)) := by
  have HL := Lib.hid (fun W (k : Ex w W) => lit_any (h.ex k))
  obtain ⟨qv, hM⟩ := h.out
  obtain ⟨⟨c0, c1, c2, c3, c4, c5⟩, hf, hz⟩ := hM.cells
  have f2 := hf 2
  have f3 := hf 3
  unfold litD at HL
  unfold failD
  replace hM := Lib.hid hM
  clear h hf
  by_cases hd : d.dark = true
  · rw [if_pos hd]
    simp only [hd, if_true] at HL
    go_enter Try.func20, Try.ntmps20
    go_wp2_with (go_at_call 44; (with_reducible refine (HL.out _ (by (try show Ex _ _); repeat (first | (with_reducible exact ex_refl _) | (with_reducible assumption) | (with_reducible refine ex_drewL ?_) | (with_reducible refine ex_appR ?_ _) | (with_reducible refine ex_wx ?_ _) | (with_reducible refine ex_drew ?_) | (with_reducible refine ex_alloc ?_ _)))).mono ?_); rintro e w2 ⟨rfl, X, rfl⟩)
    go_ret
    exact ⟨_, rfl, ⟨_, hM.out.ex (by (try show Ex _ _); repeat (first | (with_reducible exact ex_refl _) | (with_reducible assumption) | (with_reducible refine ex_drewL ?_) | (with_reducible refine ex_appR ?_ _) | (with_reducible refine ex_wx ?_ _) | (with_reducible refine ex_drew ?_) | (with_reducible refine ex_alloc ?_ _)))⟩, Dv.ofEx (by (try show Ex _ _); repeat (first | (with_reducible exact ex_refl _) | (with_reducible assumption) | (with_reducible refine ex_drewL ?_) | (with_reducible refine ex_appR ?_ _) | (with_reducible refine ex_wx ?_ _) | (with_reducible refine ex_drew ?_) | (with_reducible refine ex_alloc ?_ _)))⟩
  · rw [if_neg hd]
    simp only [hd, if_false] at HL
    have hm1 : -1 ≤ max n (-1) := by omega
    have hm2 : max n (-1) < 9223372036854775808 := by omega
    obtain ⟨m, hm⟩ : ∃ m, max n (-1) = m := ⟨_, rfl⟩
    rw [hm] at hm1 hm2 ⊢
    have hmm : (if n < -1 then (-1 : Int) else n) = m := by rw [← hm]; split <;> omega
    have hmm2 : (if (-1 : Int) < n then n else -1) = m := by rw [← hm]; split <;> omega
    go_enter Try.func20, Try.ntmps20
    go_wp2_with (go_at_call 44; (with_reducible refine (HL.out _ (by (try show Ex _ _); repeat (first | (with_reducible exact ex_refl _) | (with_reducible assumption) | (with_reducible refine ex_drewL ?_) | (with_reducible refine ex_appR ?_ _) | (with_reducible refine ex_wx ?_ _) | (with_reducible refine ex_drew ?_) | (with_reducible refine ex_alloc ?_ _)))).mono ?_); rintro e w2 ⟨rfl, X, rfl⟩)
    go_ret
    exact ⟨_, rfl, ⟨_, (hM.out.setDm hm1 hm2).ex (by (try show Ex _ _); repeat (first | (with_reducible exact ex_refl _) | (with_reducible assumption) | (with_reducible refine ex_drewL ?_) | (with_reducible refine ex_appR ?_ _) | (with_reducible refine ex_wx ?_ _) | (with_reducible refine ex_drew ?_) | (with_reducible refine ex_alloc ?_ _)))⟩, ((Dv.refl _ _).setP 3 _).grow (by (try show Ex _ _); repeat (first | (with_reducible exact ex_refl _) | (with_reducible assumption) | (with_reducible refine ex_drewL ?_) | (with_reducible refine ex_appR ?_ _) | (with_reducible refine ex_wx ?_ _) | (with_reducible refine ex_drew ?_) | (with_reducible refine ex_alloc ?_ _)))⟩
end Go.Proofs.Ytdohohafdplkiaa
