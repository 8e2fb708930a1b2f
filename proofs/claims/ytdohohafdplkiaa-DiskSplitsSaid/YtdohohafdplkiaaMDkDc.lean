import Derived.Test.YtdohohafdplkiaaMDkUl

/- The document's disk: Asked. -/
set_option linter.unusedSimpArgs false
set_option linter.unusedVariables false
set_option maxRecDepth 20000
namespace Go.Proofs.Ytdohohafdplkiaa
open Go.RowKit
def askedD (d : Dk) (s : Int) (ch : Bool) : Dk × Int := if (reqD d s ch).2 = 0 then (incD (reqD d s ch).1, 0) else reqD d s ch
theorem asked_of {d d' : Dk} {s er : Int} {ch : Bool} (h : reqD d s ch = (d', er)) : askedD d s ch = if er = 0 then (incD d', 0) else (d', er) := by unfold askedD; rw [h]
/-- The greater one: behind a name, so that a walk does not part. -/
def imax (x y : Int) : Int := if x < y then y else x
theorem run_imax {P : Program} (ts : Array TypeId) (t : TypeId) (k k' : IntKind) (x y : Int) (w : World) : (Builtin.max_ ts t #[.int k x, .int k' y]).run P w = .ok (.int k (imax x y)) w := run_max_int2 ..
theorem imax_down {x : Int} (h : -1 ≤ x) : imax (x - 1) (-1) = down x := by unfold imax down; split <;> split <;> omega
def rdvV (hv qv : Value) (d : Dk) : Value := .agg #[hv, qv, I d.ar, I d.dm, .bool d.dark, I (d.ops : Nat)]
attribute [local go_sem high] run_imax
set_option maxHeartbeats 2000000 in
theorem asked_doc {w : World} {hv qv : Value} {d : Dk} (h1 : SlV1 KK 64 w hv d.has) (h2 : SlV1 KQ 65 w qv d.qu) (s : Int) (hs1 : -9223372036854775808 ≤ s) (hs2 : s < 9223372036854775808) (ch : Bool) (ha : -1 ≤ d.ar ∧ d.ar < 9223372036854775808) (hd : -1 ≤ d.dm ∧ d.dm < 9223372036854775808) (ho : d.ops < 1000000000) :
    Calls Try.prog 56 #[rdvV hv qv d, I s, .bool ch] w (Post w (.tuple #[rdvV hv qv (askedD d s ch).1, I (askedD d s ch).2])) := by
  unfold rdvV
  obtain ⟨ah, c, rfl, ch1, ch2, ch3, _⟩ := id h1.out
  obtain ⟨aq, cq, rfl, _⟩ := id h2.out
  have H1 := Lib.hid h1
  have H2 := Lib.hid h2
  have hma := imax_down ha.1
  have hmd := imax_down hd.1
  obtain ⟨a1, a2⟩ := ha
  obtain ⟨d1, d2⟩ := hd
  unfold maxLen at ch2
  clear h1 h2
  by_cases hdk : d.dark = true
  · have e : askedD d s ch = (d, 9) := (asked_of (by unfold reqD; rw [if_pos hdk])).trans (by simp)
    rw [e, hdk]
    clear e
    go_enter Try.func56, Try.ntmps56
    go_wp2
    exact ret_rowV Try.results56 Try.underlying32 rfl info_rdk rfl (cs := #[.slice ah d.has.length c, .slice aq d.qu.length cq, I (d.ar), I (d.dm), .bool true, I ((d.ops : Nat))]) (by simp [go_sem]) rfl rfl (post_mk (by first | rfl | (simp only [incD]; rfl) | simp [incD]) (by (try show Ex _ _); repeat (first | (with_reducible exact ex_refl _) | (with_reducible assumption) | (with_reducible refine ex_drewL ?_) | (with_reducible refine ex_appR ?_ _) | (with_reducible refine ex_wx ?_ _) | (with_reducible refine ex_drew ?_) | (with_reducible refine ex_alloc ?_ _))))
  replace hdk : d.dark = false := by simpa using hdk
  have hdk' := Lib.hid hdk
  by_cases hin : ¬ (0 ≤ s ∧ s < d.has.length)
  · have e : askedD d s ch = (d, 2) := (asked_of (by unfold reqD; rw [if_neg (by simp [hdk]), if_pos hin])).trans (by simp)
    rw [e, hdk]
    clear e hdk
    by_cases hs0 : s < 0
    · clear hin
      go_enter Try.func56, Try.ntmps56
      go_wp2
      exact ret_rowV Try.results56 Try.underlying32 rfl info_rdk rfl (cs := #[.slice ah d.has.length c, .slice aq d.qu.length cq, I (d.ar), I (d.dm), .bool false, I ((d.ops : Nat))]) (by simp [go_sem]) rfl rfl (post_mk (by first | rfl | (simp only [incD]; rfl) | simp [incD]) (by (try show Ex _ _); repeat (first | (with_reducible exact ex_refl _) | (with_reducible assumption) | (with_reducible refine ex_drewL ?_) | (with_reducible refine ex_appR ?_ _) | (with_reducible refine ex_wx ?_ _) | (with_reducible refine ex_drew ?_) | (with_reducible refine ex_alloc ?_ _))))
    · have hs3 : ¬ s < d.has.length := by omega
      have hs4 : (d.has.length : Int) ≤ s := by omega
      clear hin
      go_enter Try.func56, Try.ntmps56
      go_wp2
      exact ret_rowV Try.results56 Try.underlying32 rfl info_rdk rfl (cs := #[.slice ah d.has.length c, .slice aq d.qu.length cq, I (d.ar), I (d.dm), .bool false, I ((d.ops : Nat))]) (by simp [go_sem]) rfl rfl (post_mk (by first | rfl | (simp only [incD]; rfl) | simp [incD]) (by (try show Ex _ _); repeat (first | (with_reducible exact ex_refl _) | (with_reducible assumption) | (with_reducible refine ex_drewL ?_) | (with_reducible refine ex_appR ?_ _) | (with_reducible refine ex_wx ?_ _) | (with_reducible refine ex_drew ?_) | (with_reducible refine ex_alloc ?_ _))))
  obtain ⟨hin1, hin2⟩ := Decidable.not_not.1 hin
  clear hin
  have hlo := down_lo d1
  have hhi := down_hi d1 d2
  have hlo2 := down_lo a1
  have hhi2 := down_hi a1 a2
  cases ch with
  | false =>
    by_cases h0 : d.dm = 0
    · have e : askedD d s false = ({ d with dm := down d.dm }, 8) := (asked_of (by unfold reqD; rw [if_neg (by simp [hdk]), if_neg (by omega), if_neg (by simp), if_pos h0])).trans (by simp)
      rw [e, hdk]
      have hb : (d.dm == 0) = true := by simp [h0]
      clear e hdk h0
      go_enter Try.func56, Try.ntmps56
      go_wp2
      exact ret_rowV Try.results56 Try.underlying32 rfl info_rdk rfl (cs := #[.slice ah d.has.length c, .slice aq d.qu.length cq, I (d.ar), I (down d.dm), .bool false, I ((d.ops : Nat))]) (by simp [go_sem]) rfl rfl (post_mk (by first | rfl | (simp only [incD]; rfl) | simp [incD]) (by (try show Ex _ _); repeat (first | (with_reducible exact ex_refl _) | (with_reducible assumption) | (with_reducible refine ex_drewL ?_) | (with_reducible refine ex_appR ?_ _) | (with_reducible refine ex_wx ?_ _) | (with_reducible refine ex_drew ?_) | (with_reducible refine ex_alloc ?_ _))))
    · have e : askedD d s false = (incD { d with dm := down d.dm }, 0) := (asked_of (by unfold reqD; rw [if_neg (by simp [hdk]), if_neg (by omega), if_neg (by simp), if_neg h0])).trans (by simp)
      rw [e, hdk]
      have hb : (d.dm == 0) = false := by simp [h0]
      clear e hdk
      go_enter Try.func56, Try.ntmps56
      go_wp2
      exact ret_rowV Try.results56 Try.underlying32 rfl info_rdk rfl (cs := #[.slice ah d.has.length c, .slice aq d.qu.length cq, I (d.ar), I (down d.dm), .bool false, I ((d.ops : Int) + 1)]) (by simp [go_sem]) rfl rfl (post_mk (by first | rfl | (simp only [incD]; rfl) | simp [incD]) (by (try show Ex _ _); repeat (first | (with_reducible exact ex_refl _) | (with_reducible assumption) | (with_reducible refine ex_drewL ?_) | (with_reducible refine ex_appR ?_ _) | (with_reducible refine ex_wx ?_ _) | (with_reducible refine ex_drew ?_) | (with_reducible refine ex_alloc ?_ _))))
  | true =>
    by_cases h1 : d.ar = 0
    · have e : askedD d s true = ({ d with dm := down d.dm, dark := true }, 9) := (asked_of (by unfold reqD; rw [if_neg (by simp [hdk]), if_neg (by omega), if_pos ⟨rfl, h1⟩])).trans (by simp)
      rw [e, hdk]
      have hb1 : (d.ar == 0) = true := by simp [h1]
      clear e hdk h1
      by_cases h0 : d.dm = 0
      · have hb : (d.dm == 0) = true := by simp [h0]
        clear h0
        go_enter Try.func56, Try.ntmps56
        go_wp2
        exact ret_rowV Try.results56 Try.underlying32 rfl info_rdk rfl (cs := #[.slice ah d.has.length c, .slice aq d.qu.length cq, I (d.ar), I (down d.dm), .bool true, I ((d.ops : Nat))]) (by simp [go_sem]) rfl rfl (post_mk (by first | rfl | (simp only [incD]; rfl) | simp [incD]) (by (try show Ex _ _); repeat (first | (with_reducible exact ex_refl _) | (with_reducible assumption) | (with_reducible refine ex_drewL ?_) | (with_reducible refine ex_appR ?_ _) | (with_reducible refine ex_wx ?_ _) | (with_reducible refine ex_drew ?_) | (with_reducible refine ex_alloc ?_ _))))
      · have hb : (d.dm == 0) = false := by simp [h0]
        go_enter Try.func56, Try.ntmps56
        go_wp2
        exact ret_rowV Try.results56 Try.underlying32 rfl info_rdk rfl (cs := #[.slice ah d.has.length c, .slice aq d.qu.length cq, I (d.ar), I (down d.dm), .bool true, I ((d.ops : Nat))]) (by simp [go_sem]) rfl rfl (post_mk (by first | rfl | (simp only [incD]; rfl) | simp [incD]) (by (try show Ex _ _); repeat (first | (with_reducible exact ex_refl _) | (with_reducible assumption) | (with_reducible refine ex_drewL ?_) | (with_reducible refine ex_appR ?_ _) | (with_reducible refine ex_wx ?_ _) | (with_reducible refine ex_drew ?_) | (with_reducible refine ex_alloc ?_ _))))
    have hb1 : (d.ar == 0) = false := by simp [h1]
    by_cases h0 : d.dm = 0
    · have e : askedD d s true = ({ d with dm := down d.dm }, 8) := (asked_of (by unfold reqD; rw [if_neg (by simp [hdk]), if_neg (by omega), if_neg (by simp [h1]), if_pos h0])).trans (by simp)
      rw [e, hdk]
      have hb : (d.dm == 0) = true := by simp [h0]
      clear e hdk h0
      go_enter Try.func56, Try.ntmps56
      go_wp2
      exact ret_rowV Try.results56 Try.underlying32 rfl info_rdk rfl (cs := #[.slice ah d.has.length c, .slice aq d.qu.length cq, I (d.ar), I (down d.dm), .bool false, I ((d.ops : Nat))]) (by simp [go_sem]) rfl rfl (post_mk (by first | rfl | (simp only [incD]; rfl) | simp [incD]) (by (try show Ex _ _); repeat (first | (with_reducible exact ex_refl _) | (with_reducible assumption) | (with_reducible refine ex_drewL ?_) | (with_reducible refine ex_appR ?_ _) | (with_reducible refine ex_wx ?_ _) | (with_reducible refine ex_drew ?_) | (with_reducible refine ex_alloc ?_ _))))
    · have e : askedD d s true = (incD { d with dm := down d.dm, ar := down d.ar }, 0) := (asked_of (by unfold reqD; rw [if_neg (by simp [hdk]), if_neg (by omega), if_neg (by simp [h1]), if_neg h0])).trans (by simp)
      rw [e, hdk]
      have hb : (d.dm == 0) = false := by simp [h0]
      clear e hdk
      go_enter Try.func56, Try.ntmps56
      go_wp2
      exact ret_rowV Try.results56 Try.underlying32 rfl info_rdk rfl (cs := #[.slice ah d.has.length c, .slice aq d.qu.length cq, I (down d.ar), I (down d.dm), .bool false, I ((d.ops : Int) + 1)]) (by simp [go_sem]) rfl rfl (post_mk (by first | rfl | (simp only [incD]; rfl) | simp [incD]) (by (try show Ex _ _); repeat (first | (with_reducible exact ex_refl _) | (with_reducible assumption) | (with_reducible refine ex_drewL ?_) | (with_reducible refine ex_appR ?_ _) | (with_reducible refine ex_wx ?_ _) | (with_reducible refine ex_drew ?_) | (with_reducible refine ex_alloc ?_ _))))
end Go.Proofs.Ytdohohafdplkiaa
