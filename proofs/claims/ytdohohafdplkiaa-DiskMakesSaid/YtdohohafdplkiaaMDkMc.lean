import Derived.Test.YtdohohafdplkiaaMDkMa
import Derived.Test.YtdohohafdplkiaaMDkDm

/- DiskMakes, walked. -/
set_option linter.unusedSimpArgs false
set_option linter.unusedVariables false
set_option maxRecDepth 20000
namespace Go.Proofs.Ytdohohafdplkiaa
open Go.RowKit
set_option maxHeartbeats 1000000 in
theorem makes_low {w : World} (n : Int) (h1 : n < 1) (a : Ak) (kv : Value) (hs : SlV1 KBo 1 w kv a.keep) : Calls Try.prog 6 #[I n, AV a kv] w (Post w (.bool true)) := by
  have HW := Lib.hid (fun W => wakes_any W)
  have hE : eqF (fun _ => 0) (fun _ => 0) 64 = true := eqF_same _ _
  have HF := Lib.hid (fun W (k : Ex w W) => of_nil a kv (hs.ex k))
  rw [zeroB_row] at HF
  unfold AV at HF ⊢
  have hkv : kv.oneCell' = true := by obtain ⟨ka, kc, rfl, _⟩ := hs.out; rfl
  obtain ⟨kd, at', m, keep⟩ := a
  simp only at HF ⊢
  clear hs
  have HN := Lib.hid (new_bad n (fun h => by omega))
  go_enter Try.func6, Try.ntmps6
  go_wp2_with (first | (go_at_call 9; (with_reducible refine (HW.out _).mono ?_); rintro e w1 ⟨rfl, X1, rfl⟩) | (go_at_call 10; (with_reducible refine (HN.out _).mono ?_); rintro e w3 ⟨rfl, X3, rfl⟩) | (go_at_call 14; (with_reducible refine (HF.out _ (by (try show Ex _ _); repeat (first | (with_reducible exact ex_refl _) | (with_reducible assumption) | (with_reducible refine ex_drewL ?_) | (with_reducible refine ex_appR ?_ _) | (with_reducible refine ex_wx ?_ _) | (with_reducible refine ex_drew ?_) | (with_reducible refine ex_alloc ?_ _)))).mono ?_); rintro e w6 ⟨rfl, X6, rfl⟩) | (go_at_call 30; (with_reducible refine (len_nil _).mono ?_); rintro e w7 ⟨rfl, X7, rfl⟩) | (go_at_call 23; (with_reducible refine (pend_nil _).mono ?_); rintro e w8 ⟨rfl, X8, rfl⟩) | (go_at_call 22; (with_reducible refine (ops_nil _).mono ?_); rintro e w9 ⟨rfl, X9, rfl⟩) | (go_at_call 27; (with_reducible refine (dead_nil _).mono ?_); rintro e wa ⟨rfl, Xa, rfl⟩) | (go_at_call 29; (with_reducible refine (copy_nil _).mono ?_); rintro e wb ⟨rfl, Xb, rfl⟩))
  go_ret
  exact post_mk' rfl (by (try show Ex _ _); repeat (first | (with_reducible exact ex_refl _) | (with_reducible assumption) | (with_reducible refine ex_drewL ?_) | (with_reducible refine ex_appR ?_ _) | (with_reducible refine ex_wx ?_ _) | (with_reducible refine ex_drew ?_) | (with_reducible refine ex_alloc ?_ _)))
set_option maxHeartbeats 1000000 in
theorem makes_high {w : World} (n : Int) (h2 : 2048 < n) (a : Ak) (kv : Value) (hs : SlV1 KBo 1 w kv a.keep) : Calls Try.prog 6 #[I n, AV a kv] w (Post w (.bool true)) := by
  have HW := Lib.hid (fun W => wakes_any W)
  have hE : eqF (fun _ => 0) (fun _ => 0) 64 = true := eqF_same _ _
  have HF := Lib.hid (fun W (k : Ex w W) => of_nil a kv (hs.ex k))
  rw [zeroB_row] at HF
  unfold AV at HF ⊢
  have hkv : kv.oneCell' = true := by obtain ⟨ka, kc, rfl, _⟩ := hs.out; rfl
  obtain ⟨kd, at', m, keep⟩ := a
  simp only at HF ⊢
  clear hs
  have HN := Lib.hid (new_bad n (fun h => by omega))
  have h1 : 1 ≤ n := by omega
  go_enter Try.func6, Try.ntmps6
  go_wp2_with (first | (go_at_call 9; (with_reducible refine (HW.out _).mono ?_); rintro e w1 ⟨rfl, X1, rfl⟩) | (go_at_call 10; (with_reducible refine (HN.out _).mono ?_); rintro e w3 ⟨rfl, X3, rfl⟩) | (go_at_call 14; (with_reducible refine (HF.out _ (by (try show Ex _ _); repeat (first | (with_reducible exact ex_refl _) | (with_reducible assumption) | (with_reducible refine ex_drewL ?_) | (with_reducible refine ex_appR ?_ _) | (with_reducible refine ex_wx ?_ _) | (with_reducible refine ex_drew ?_) | (with_reducible refine ex_alloc ?_ _)))).mono ?_); rintro e w6 ⟨rfl, X6, rfl⟩) | (go_at_call 30; (with_reducible refine (len_nil _).mono ?_); rintro e w7 ⟨rfl, X7, rfl⟩) | (go_at_call 23; (with_reducible refine (pend_nil _).mono ?_); rintro e w8 ⟨rfl, X8, rfl⟩) | (go_at_call 22; (with_reducible refine (ops_nil _).mono ?_); rintro e w9 ⟨rfl, X9, rfl⟩) | (go_at_call 27; (with_reducible refine (dead_nil _).mono ?_); rintro e wa ⟨rfl, Xa, rfl⟩) | (go_at_call 29; (with_reducible refine (copy_nil _).mono ?_); rintro e wb ⟨rfl, Xb, rfl⟩))
  go_ret
  exact post_mk' rfl (by (try show Ex _ _); repeat (first | (with_reducible exact ex_refl _) | (with_reducible assumption) | (with_reducible refine ex_drewL ?_) | (with_reducible refine ex_appR ?_ _) | (with_reducible refine ex_wx ?_ _) | (with_reducible refine ex_drew ?_) | (with_reducible refine ex_alloc ?_ _)))
set_option maxHeartbeats 1000000 in
theorem makes_good {w : World} (s : Nat) (s1 : 1 ≤ s) (s2 : s ≤ 2048) (a : Ak) (kv : Value) (hs : SlV1 KBo 1 w kv a.keep) : Calls Try.prog 6 #[I s, AV a kv] w (Post w (.bool true)) := by
  have HW := Lib.hid (fun W => wakes_any W)
  have hE : eqF (fun _ => 0) (fun _ => 0) 64 = true := eqF_same _ _
  have HF := Lib.hid (fun W (k : Ex w W) => of_nil a kv (hs.ex k))
  rw [zeroB_row] at HF
  unfold AV at HF ⊢
  have hkv : kv.oneCell' = true := by obtain ⟨ka, kc, rfl, _⟩ := hs.out; rfl
  obtain ⟨kd, at', m, keep⟩ := a
  simp only at HF ⊢
  clear hs
  have HN := Lib.hid (fun W (k : Ex (w.alloc (.cells #[I kd, I at', I m, kv] 37)) W) => new_o (w := (w.alloc (.cells #[I kd, I at', I m, kv] 37))) s s1 s2 k)
  have HM := Lib.hid (fun W => made_any s s1 s2 W)
  have t1 : 1 ≤ (s : Int) := by omega
  have t2 : (s : Int) ≤ 2048 := by omega
  go_enter Try.func6, Try.ntmps6
  go_wp2_with (first | (go_at_call 9; (with_reducible refine (HW.out _).mono ?_); rintro e w1 ⟨rfl, X1, rfl⟩) | (go_at_call 10; (with_reducible refine (HN.out _ (by (try show Ex _ _); repeat (first | (with_reducible exact ex_refl _) | (with_reducible assumption) | (with_reducible refine ex_drewL ?_) | (with_reducible refine ex_appR ?_ _) | (with_reducible refine ex_wx ?_ _) | (with_reducible refine ex_drew ?_) | (with_reducible refine ex_alloc ?_ _)))).mono ?_); rintro e w3 ⟨p, rfl, h3⟩; replace h3 := Lib.hid h3; have k3 := h3.out.ex) | (go_at_call 12; (with_reducible refine (HM.out _).mono ?_); rintro e w5 ⟨v5, rfl, hV5, k5⟩; have k35 : Ex w3 w5 := ex_trans (by (try show Ex _ _); repeat (first | (with_reducible exact ex_refl _) | (with_reducible assumption) | (with_reducible refine ex_drewL ?_) | (with_reducible refine ex_appR ?_ _) | (with_reducible refine ex_wx ?_ _) | (with_reducible refine ex_drew ?_) | (with_reducible refine ex_alloc ?_ _))) k5; have HT : Hid (Calls Try.prog 13 #[PT p, v5] w5 (Post w5 (.bool true))) := (by obtain ⟨_, L, rfl, hL, _⟩ := h3.out; exact Lib.hid (tells_any (hL.ex k35) hV5.rd)); have k5' := ex_trans k3 k35; have B5 := ex_block k5' (heap_alloc_new w _); have k05 := ex_trans (ex_alloc (ex_refl w) _) k5'; obtain ⟨y5, f5⟩ := block_cells (n := 4) B5 rfl; have z5 := (Array.getElem?_eq_some_iff.1 B5).1; clear k5 k35 hV5 k3 k5' B5) | (go_at_call 13; (with_reducible refine HT.out.mono ?_); rintro e w5' ⟨rfl, X5, rfl⟩) | (go_at_call 14; (with_reducible refine (HF.out _ (by (try show Ex _ _); repeat (first | (with_reducible exact ex_refl _) | (with_reducible assumption) | (with_reducible refine ex_drewL ?_) | (with_reducible refine ex_appR ?_ _) | (with_reducible refine ex_wx ?_ _) | (with_reducible refine ex_drew ?_) | (with_reducible refine ex_alloc ?_ _)))).mono ?_); rintro e w6 ⟨rfl, X6, rfl⟩) | (go_at_call 30; (with_reducible refine (len_nil _).mono ?_); rintro e w7 ⟨rfl, X7, rfl⟩) | (go_at_call 23; (with_reducible refine (pend_nil _).mono ?_); rintro e w8 ⟨rfl, X8, rfl⟩) | (go_at_call 22; (with_reducible refine (ops_nil _).mono ?_); rintro e w9 ⟨rfl, X9, rfl⟩) | (go_at_call 27; (with_reducible refine (dead_nil _).mono ?_); rintro e wa ⟨rfl, Xa, rfl⟩) | (go_at_call 29; (with_reducible refine (copy_nil _).mono ?_); rintro e wb ⟨rfl, Xb, rfl⟩))
  go_ret
  exact post_mk' rfl (by (try show Ex _ _); repeat (first | (with_reducible exact ex_refl _) | (with_reducible assumption) | (with_reducible refine ex_drewL ?_) | (with_reducible refine ex_appR ?_ _) | (with_reducible refine ex_wx ?_ _) | (with_reducible refine ex_drew ?_) | (with_reducible refine ex_alloc ?_ _)))
theorem makes_any {w : World} (n : Int) (a : Ak) (kv : Value) (hs : SlV1 KBo 1 w kv a.keep) : Calls Try.prog 6 #[I n, AV a kv] w (Post w (.bool true)) := by
  by_cases h : 1 ≤ n ∧ n ≤ 2048
  · obtain ⟨s, rfl⟩ : ∃ s : Nat, n = s := ⟨n.toNat, by omega⟩
    exact makes_good s (by omega) (by omega) a kv hs
  · by_cases h1 : n < 1
    · exact makes_low n h1 a kv hs
    · exact makes_high n (by omega) a kv hs
end Go.Proofs.Ytdohohafdplkiaa
