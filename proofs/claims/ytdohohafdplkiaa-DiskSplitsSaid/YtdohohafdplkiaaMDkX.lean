import Derived.Test.YtdohohafdplkiaaMDkY

/- A crash: what is kept. -/
set_option linter.unusedSimpArgs false
set_option linter.unusedVariables false
set_option maxRecDepth 20000
namespace Go.Proofs.Ytdohohafdplkiaa
open Go.RowKit
def KBo (b : Bool) : List Value := [.bool b]
theorem KBo_len (b : Bool) : (KBo b).length = 1 := rfl
theorem SlR.bool {w : World} {a : Option Addr} {l : List Bool} (h : SlR KBo 1 w a l) {k : Nat} (hk : k < l.length) : ∃ g off, a = some ⟨g, off, none⟩ ∧ g < w.heap.size ∧ w.cell? ⟨g, off + k, none⟩ = some (.bool (keptL l k)) := by
  obtain ⟨g, off, h1, h2, h3⟩ := h.pos (by omega)
  refine ⟨g, off, h1, h2, ?_⟩
  have := (cellsN_some.1 (h3 k _ (List.getElem?_eq_getElem hk))).2 0 (by omega)
  rw [Nat.mul_one, Nat.add_zero] at this
  rw [this]
  unfold keptL
  rw [List.getD_eq_getElem?_getD, List.getElem?_eq_getElem hk]; rfl
theorem kept_any {W : World} {kv : Value} {keep : List Bool} (hs : SlV1 KBo 1 W kv keep) (bk k : Nat) (hb : W.heap[bk]? = some (.cells #[kv] 35 (0, 0))) :
    Calls Try.prog 40 #[I k, PT bk] W (Post W (.bool (keptL keep k))) := by
  obtain ⟨a, c, rfl, h1, h2, h3, hr⟩ := hs.out
  have hbc := (block_cell (o := 0) (v := .slice a keep.length c) hb rfl).1
  have hbz := (Array.getElem?_eq_some_iff.1 hb).1
  unfold maxLen at h2
  clear hb hs
  by_cases hk : k < keep.length
  · obtain ⟨g, off, rfl, hg, hc⟩ := hr.bool hk
    have hk2 : (k : Int) < keep.length := by omega
    generalize keptL keep k = r at *
    clear hr h3
    go_enter Try.func40, Try.ntmps40
    go_wp2
    go_ret
    exact post_mk' rfl (by (try show Ex _ _); repeat (first | (with_reducible exact ex_refl _) | (with_reducible assumption) | (with_reducible refine ex_drewL ?_) | (with_reducible refine ex_appR ?_ _) | (with_reducible refine ex_wx ?_ _) | (with_reducible refine ex_drew ?_) | (with_reducible refine ex_alloc ?_ _)))
  · have hk2 : ¬ (k : Int) < keep.length := by omega
    have hr0 : keptL keep k = false := by
      cases h : keptL keep k with
      | false => rfl
      | true =>
        exfalso; apply hk
        unfold keptL at h
        rcases Nat.lt_or_ge k keep.length with h9 | h9
        · exact h9
        · rw [List.getD_eq_getElem?_getD, List.getElem?_eq_none h9] at h; cases h
    rw [hr0]
    clear hr0 hr h3
    go_enter Try.func40, Try.ntmps40
    go_wp2
    go_ret
    exact post_mk' rfl (by (try show Ex _ _); repeat (first | (with_reducible exact ex_refl _) | (with_reducible assumption) | (with_reducible refine ex_drewL ?_) | (with_reducible refine ex_appR ?_ _) | (with_reducible refine ex_wx ?_ _) | (with_reducible refine ex_drew ?_) | (with_reducible refine ex_alloc ?_ _)))
theorem lives_any {W : World} {kv : Value} {keep : List Bool} (hs : SlV1 KBo 1 W kv keep) (bk b5 b6 k u : Nat) (hb : W.heap[bk]? = some (.cells #[kv] 35 (0, 0)))
    (h5 : W.heap[b5]? = some (.cells #[.func (.func 40) #[] #[PT bk]] 80 (0, 0))) (h6 : W.heap[b6]? = some (.cells #[I u] 3 (0, 0))) :
    Calls Try.prog 43 #[I k, PT b6, PT b5] W (Post W (.bool (decide (k < u) || keptL keep k))) := by
  have HK := Lib.hid (fun W' (x : Ex W W') => kept_any (hs.ex x) bk k (ex_block x hb))
  have c5 := (block_cell (o := 0) (v := .func (.func 40) #[] #[PT bk]) h5 rfl).1
  have z5 := (Array.getElem?_eq_some_iff.1 h5).1
  have c6 := (block_cell (o := 0) (v := I u) h6 rfl).1
  have z6 := (Array.getElem?_eq_some_iff.1 h6).1
  clear hs hb h5 h6
  generalize keptL keep k = r at *
  by_cases hk : k < u
  · have hk2 : (k : Int) < u := by omega
    go_enter Try.func43, Try.ntmps43
    go_wp2
    go_ret
    exact post_mk' (by simp [hk]) (by (try show Ex _ _); repeat (first | (with_reducible exact ex_refl _) | (with_reducible assumption) | (with_reducible refine ex_drewL ?_) | (with_reducible refine ex_appR ?_ _) | (with_reducible refine ex_wx ?_ _) | (with_reducible refine ex_drew ?_) | (with_reducible refine ex_alloc ?_ _)))
  · have hk2 : ¬ (k : Int) < u := by omega
    go_enter Try.func43, Try.ntmps43
    go_wp2_with (go_at_call 40; (with_reducible refine (HK.out _ (by (try show Ex _ _); repeat (first | (with_reducible exact ex_refl _) | (with_reducible assumption) | (with_reducible refine ex_drewL ?_) | (with_reducible refine ex_appR ?_ _) | (with_reducible refine ex_wx ?_ _) | (with_reducible refine ex_drew ?_) | (with_reducible refine ex_alloc ?_ _)))).mono ?_); rintro e w2 ⟨rfl, X, rfl⟩)
    go_ret
    exact post_mk' (by simp [hk]) (by (try show Ex _ _); repeat (first | (with_reducible exact ex_refl _) | (with_reducible assumption) | (with_reducible refine ex_drewL ?_) | (with_reducible refine ex_appR ?_ _) | (with_reducible refine ex_wx ?_ _) | (with_reducible refine ex_drew ?_) | (with_reducible refine ex_alloc ?_ _)))
end Go.Proofs.Ytdohohafdplkiaa
