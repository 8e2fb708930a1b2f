import Derived.Test.YtpcfkjeikhehaaaDoorMFrO
import Derived.Test.YtpcfkjeikhehaaaDoorMSum

/- Messages: small functions. -/
set_option linter.unusedSimpArgs false
set_option linter.unusedVariables false
set_option maxRecDepth 20000
namespace Go.Proofs.YtpcfkjeikhehaaaDoor
open Go.RowKit
def countsF : Nat → Int
  | 1 => 2 | 2 => 1 | 3 => 14 | 4 => 3 | 5 => 50 | _ => 0
structure FGlob (w : World) : Prop where
  g : Glob w
  c : cellsN w 1 0 6 = some (rowI 6 countsF)
  z : 1 < w.heap.size
theorem FGlob.ex {w w' : World} (h : FGlob w) (k : Ex w w') : FGlob w' := by
  obtain ⟨X, rfl⟩ := k
  exact ⟨h.g.wx X, by rw [cellsN_congr fun j _ => wx_cell w X _ h.z]; exact h.c, by rw [wx_size]; exact Nat.lt_of_lt_of_le h.z (Nat.le_add_right _ _)⟩
theorem FGlob.at {w : World} (h : FGlob w) (i : Nat) (hi : i < 6) : w.cell? ⟨1, i, none⟩ = some (I (countsF i)) := by
  have := (cellsN_some.1 h.c).2 i hi
  rw [Nat.zero_add] at this
  rw [this, rowI_get, if_pos hi]
def zeroB (k : Int) (en mn dn : Nat) (ok : Bool) (pi pt cm : UInt64) : Bool := (hasE k || en == 0) && (hasM k || mn == 0) && (hasD k || dn == 0) && (hasO k || !ok) && (hasP k || (decide (pi = 0) && decide (pt = 0))) && (hasC k || decide (cm = 0))
theorem ln_zero (x : UInt64) : (ln x == 0) = decide (x = 0) := by
  rw [Bool.eq_iff_iff, beq_iff_eq, decide_eq_true_eq]
  exact ⟨fun h => ln_inj (y := 0) (by rw [h]; rfl), fun h => by rw [h]; rfl⟩
theorem ln_eq0 (x : UInt64) : (ln x = 0) = (x = 0) := by
  have := ln_zero x
  rw [Bool.eq_iff_iff, beq_iff_eq, decide_eq_true_eq] at this
  exact propext this
set_option maxHeartbeats 2000000 in
theorem bare_any (k : Nat) (w : World) (G : FGlob w) (h1 : 1 ≤ k) (h5 : k ≤ 5) (fr to : Int) (tm pi pt cm : UInt64) (ea ma da : Option Addr) (en ec mn mc dn dc : Nat) (ok : Bool) :
    Calls Tryd.prog 33 #[.agg #[I k, I fr, I to, L tm, L pi, L pt, .slice ea en ec, L cm, .bool ok, .slice ma mn mc, .slice da dn dc]] w (Post w (.bool (zeroB k en mn dn ok pi pt cm))) := by
  have z1 := G.z
  have hk : k = 1 ∨ k = 2 ∨ k = 3 ∨ k = 4 ∨ k = 5 := by omega
  clear h1 h5
  rcases hk with rfl | rfl | rfl | rfl | rfl
  · have c1 := G.at 1 (by omega)
    simp only [countsF] at c1
    go_enter Tryd.func33, Tryd.ntmps33
    go_wp2
    all_goals (go_ret; refine post_mk (congrArg (fun b => Ending.returned (.bool b)) ?_) (by (try show Ex _ _); repeat (first | (with_reducible exact ex_refl _) | (with_reducible assumption) | (with_reducible refine ex_drewL ?_) | (with_reducible refine ex_appR ?_ _) | (with_reducible refine ex_wx ?_ _) | (with_reducible refine ex_drew ?_) | (with_reducible refine ex_alloc ?_ _))); simp_all [zeroB, hasE, hasM, hasD, hasO, hasP, hasC, ln_zero, ln_eq0])
  · have c1 := G.at 2 (by omega)
    simp only [countsF] at c1
    go_enter Tryd.func33, Tryd.ntmps33
    go_wp2
    all_goals (go_ret; refine post_mk (congrArg (fun b => Ending.returned (.bool b)) ?_) (by (try show Ex _ _); repeat (first | (with_reducible exact ex_refl _) | (with_reducible assumption) | (with_reducible refine ex_drewL ?_) | (with_reducible refine ex_appR ?_ _) | (with_reducible refine ex_wx ?_ _) | (with_reducible refine ex_drew ?_) | (with_reducible refine ex_alloc ?_ _))); simp_all [zeroB, hasE, hasM, hasD, hasO, hasP, hasC, ln_zero, ln_eq0])
  · have c1 := G.at 3 (by omega)
    simp only [countsF] at c1
    go_enter Tryd.func33, Tryd.ntmps33
    go_wp2
    all_goals (go_ret; refine post_mk (congrArg (fun b => Ending.returned (.bool b)) ?_) (by (try show Ex _ _); repeat (first | (with_reducible exact ex_refl _) | (with_reducible assumption) | (with_reducible refine ex_drewL ?_) | (with_reducible refine ex_appR ?_ _) | (with_reducible refine ex_wx ?_ _) | (with_reducible refine ex_drew ?_) | (with_reducible refine ex_alloc ?_ _))); simp_all [zeroB, hasE, hasM, hasD, hasO, hasP, hasC, ln_zero, ln_eq0])
  · have c1 := G.at 4 (by omega)
    simp only [countsF] at c1
    go_enter Tryd.func33, Tryd.ntmps33
    go_wp2
    all_goals (go_ret; refine post_mk (congrArg (fun b => Ending.returned (.bool b)) ?_) (by (try show Ex _ _); repeat (first | (with_reducible exact ex_refl _) | (with_reducible assumption) | (with_reducible refine ex_drewL ?_) | (with_reducible refine ex_appR ?_ _) | (with_reducible refine ex_wx ?_ _) | (with_reducible refine ex_drew ?_) | (with_reducible refine ex_alloc ?_ _))); simp_all [zeroB, hasE, hasM, hasD, hasO, hasP, hasC, ln_zero, ln_eq0])
  · have c1 := G.at 5 (by omega)
    simp only [countsF] at c1
    go_enter Tryd.func33, Tryd.ntmps33
    go_wp2
    all_goals (go_ret; refine post_mk (congrArg (fun b => Ending.returned (.bool b)) ?_) (by (try show Ex _ _); repeat (first | (with_reducible exact ex_refl _) | (with_reducible assumption) | (with_reducible refine ex_drewL ?_) | (with_reducible refine ex_appR ?_ _) | (with_reducible refine ex_wx ?_ _) | (with_reducible refine ex_drew ?_) | (with_reducible refine ex_alloc ?_ _))); simp_all [zeroB, hasE, hasM, hasD, hasO, hasP, hasC, ln_zero, ln_eq0])
end Go.Proofs.YtpcfkjeikhehaaaDoor
