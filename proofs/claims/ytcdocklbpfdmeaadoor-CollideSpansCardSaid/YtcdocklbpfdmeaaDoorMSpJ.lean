import Derived.Test.YtcdocklbpfdmeaaDoorMSpI
import Derived.Test.YtcdocklbpfdmeaaDoorMRtA

/- Collide: spans, among, Spans, Span. -/
set_option linter.unusedSimpArgs false
set_option linter.unusedVariables false
set_option linter.unnecessarySimpa false
set_option maxRecDepth 20000
namespace Go.Proofs.YtcdocklbpfdmeaaDoor
open Go.RowKit
set_option maxHeartbeats 2000000 in
theorem spans_any {w0 : World} (G : Glob w0) (W : Int) (l : List Pr) (la : Option Addr) (lc : Nat) (r : Rg) (T F : Int) (ps : List Pr) (pa : Option Addr) (pc : Nat) (qs : List Dg) (qa : Option Addr) (qc : Nat) (w : World)
    (hlc : l.length ≤ lc) (hlm : lc ≤ maxLen) (hls : SlP w la l) (hpc : ps.length ≤ pc) (hpm : pc ≤ maxLen) (hPs : SlP w pa ps) (hqc : qs.length ≤ qc) (hqm : qc ≤ maxLen) (hQs : SlD w qa qs) (k0 : Ex w0 w) :
    Calls Tryd.prog 57 #[I W, .slice la l.length lc, .agg (RC r), .agg #[I T, I F, .slice pa ps.length pc, .slice qa qs.length qc]] w (PostBC w (spansC W l r T F ps qs)) := by
  have HK := Lib.hid fun w' (k : Ex w w') => Check_any l la lc w' hlc hlm (hls.ex k)
  have HFm := Lib.hid fun w' (k : Ex w w') => formed_any r T F ps pa pc qa qs.length qc w' hpc hpm (hPs.ex k)
  unfold chkP at HK
  have HO : Hid (rightP l = true → formC r T F ps = true → ∀ w', Ex (((w.alloc (.cells #[.slice la l.length lc] 22)).alloc (.cells (RC r) 24)).alloc (.cells #[I T, I F, .slice pa ps.length pc, .slice qa qs.length qc] 27)) w' →
      Calls Tryd.prog 97 #[I W, .func (.func 98) #[] #[.pointer (some ⟨w.heap.size + 1 + 1, 0, none⟩), .pointer (some ⟨w.heap.size, 0, none⟩)]] w' (PostBC w' (spansC W l r T F ps qs))) := Lib.hid fun hr hf w' k => by
    by_cases hw : 0 ≤ W ∧ W ≤ 256
    · obtain ⟨N, rfl⟩ : ∃ N : Nat, W = N := ⟨W.toNat, by omega⟩
      obtain ⟨hok, _, _⟩ := form_ok hf
      have hok' := hok
      obtain ⟨k1, k2, k3, k4, k5, k6⟩ := hok'
      obtain ⟨Tn, rfl⟩ : ∃ Tn : Nat, T = Tn := ⟨T.toNat, by omega⟩
      obtain ⟨Fn, rfl⟩ : ∃ Fn : Nat, F = Fn := ⟨F.toNat, by omega⟩
      unfold spansC
      rw [if_pos ⟨hr, hf, hw⟩, Int.toNat_natCast, Int.toNat_natCast]
      have kw : Ex w w' := ex_trans (ex_alloc (ex_alloc (ex_alloc (ex_refl _) _) _) _) k
      have b1 := ex_block (ex_trans (ex_alloc (ex_alloc (ex_refl _) _) _) k) (heap_alloc_new w (.cells #[.slice la l.length lc] 22))
      have b2 := ex_block k (heap_alloc_new ((w.alloc (.cells #[.slice la l.length lc] 22)).alloc (.cells (RC r) 24)) (.cells #[I Tn, I Fn, .slice pa ps.length pc, .slice qa qs.length qc] 27))
      rw [World.size_alloc, World.size_alloc] at b2
      have hI := fun w2 p (k2 : Ex w' w2) (hp : w'.heap.size ≤ p) (hk : Wk w2 p N none) => spans1_any (A := w') G (ex_trans k0 kw) N (by omega) hp l la lc Tn Fn ps pa pc qs qa qc w2 (w.heap.size + 1 + 1) w.heap.size hr hlc hlm (hls.ex kw) hok hpc hpm (hPs.ex kw) hqc hqm (hQs.ex kw) k2 hk b2 b1
      cases hc : spanTop (sumW N) l Tn Fn ps qs with
      | none =>
        refine (walks_off (f := 98) (fun _ _ => rfl) N (by omega) w' fun w2 p k2 hp hk => ?_).mono fun e w3 ⟨h1, h2⟩ => ⟨none, h1, h2, rfl⟩
        have := hI w2 p k2 hp hk
        rw [hc] at this
        exact this
      | some x =>
        refine walks_ok (f := 98) (fun _ _ => rfl) N (by omega) w' _ _ fun w2 p k2 hp hk => ?_
        have := hI w2 p k2 hp hk
        rw [hc] at this
        exact this
    · have he : spansC W l r T F ps qs = (false, none) := by unfold spansC; rw [if_neg (by rintro ⟨_, _, h⟩; exact hw h)]
      rw [he]
      exact walks_nw W (decide_eq_false hw) w'
  have HF : Hid (¬ (rightP l = true ∧ formC r T F ps = true) → spansC W l r T F ps qs = (false, none)) := Lib.hid fun h => by
    unfold spansC; rw [if_neg (by rintro ⟨h1, h2, _⟩; exact h ⟨h1, h2⟩)]
  generalize spansC W l r T F ps qs = o at HO HF ⊢
  generalize rightP l = br at HK HO HF
  generalize formC r T F ps = bf at HFm HO HF
  generalize l.length = n at *
  generalize ps.length = pn at *
  generalize qs.length = qn at *
  clear hls hPs hQs
  unfold maxLen at hlm hpm hqm
  obtain ⟨lo, hi, op⟩ := r
  unfold RC at HFm HO ⊢
  dsimp only at HFm HO ⊢
  cases br with
  | false =>
    rw [HF.out (by simp)]
    simp only [Bool.false_eq_true, if_false] at HK
    go_enter Tryd.func57, Tryd.ntmps57
    go_wp2_with (first | (go_at_call 62; (with_reducible refine (HK.out _ (by (try show Ex _ _); with_reducible repeat (first | exact ex_refl _ | assumption | refine ex_drewL ?_ | refine ex_appR ?_ _ | refine ex_wx ?_ _ | refine ex_drew ?_ | refine ex_alloc ?_ _))).mono ?_); rintro e w2 ⟨rfl, X, rfl⟩) | (go_at_call 96; (with_reducible refine (HFm.out _ (by (try show Ex _ _); with_reducible repeat (first | exact ex_refl _ | assumption | refine ex_drewL ?_ | refine ex_appR ?_ _ | refine ex_wx ?_ _ | refine ex_drew ?_ | refine ex_alloc ?_ _))).mono ?_); rintro e w2 ⟨rfl, X2, rfl⟩))
    go_ret2
    exact ⟨none, rfl, (by (try show Ex _ _); with_reducible repeat (first | exact ex_refl _ | assumption | refine ex_drewL ?_ | refine ex_appR ?_ _ | refine ex_wx ?_ _ | refine ex_drew ?_ | refine ex_alloc ?_ _)), rfl⟩
  | true =>
    simp only [if_true] at HK
    cases bf with
    | false =>
      rw [HF.out (by simp)]
      go_enter Tryd.func57, Tryd.ntmps57
      go_wp2_with (first | (go_at_call 62; (with_reducible refine (HK.out _ (by (try show Ex _ _); with_reducible repeat (first | exact ex_refl _ | assumption | refine ex_drewL ?_ | refine ex_appR ?_ _ | refine ex_wx ?_ _ | refine ex_drew ?_ | refine ex_alloc ?_ _))).mono ?_); rintro e w2 ⟨rfl, X, rfl⟩) | (go_at_call 96; (with_reducible refine (HFm.out _ (by (try show Ex _ _); with_reducible repeat (first | exact ex_refl _ | assumption | refine ex_drewL ?_ | refine ex_appR ?_ _ | refine ex_wx ?_ _ | refine ex_drew ?_ | refine ex_alloc ?_ _))).mono ?_); rintro e w2 ⟨rfl, X2, rfl⟩))
      go_ret2
      exact ⟨none, rfl, (by (try show Ex _ _); with_reducible repeat (first | exact ex_refl _ | assumption | refine ex_drewL ?_ | refine ex_appR ?_ _ | refine ex_wx ?_ _ | refine ex_drew ?_ | refine ex_alloc ?_ _)), rfl⟩
    | true =>
      have HO2 := Lib.hid (HO.out rfl rfl)
      go_enter Tryd.func57, Tryd.ntmps57
      go_wp2_with (first | (go_at_call 62; (with_reducible refine (HK.out _ (by (try show Ex _ _); with_reducible repeat (first | exact ex_refl _ | assumption | refine ex_drewL ?_ | refine ex_appR ?_ _ | refine ex_wx ?_ _ | refine ex_drew ?_ | refine ex_alloc ?_ _))).mono ?_); rintro e w2 ⟨rfl, X, rfl⟩) | (go_at_call 96; (with_reducible refine (HFm.out _ (by (try show Ex _ _); with_reducible repeat (first | exact ex_refl _ | assumption | refine ex_drewL ?_ | refine ex_appR ?_ _ | refine ex_wx ?_ _ | refine ex_drew ?_ | refine ex_alloc ?_ _))).mono ?_); rintro e w2 ⟨rfl, X2, rfl⟩) | (go_at_call 97; (with_reducible refine (HO2.out _ (by (try show Ex _ _); with_reducible repeat (first | exact ex_refl _ | assumption | refine ex_drewL ?_ | refine ex_appR ?_ _ | refine ex_wx ?_ _ | refine ex_drew ?_ | refine ex_alloc ?_ _))).mono ?_); rintro e w2 ⟨pv, rfl, k2, hc2⟩))
      go_ret2
      exact ⟨pv, rfl, ex_trans (by (try show Ex _ _); with_reducible repeat (first | exact ex_refl _ | assumption | refine ex_drewL ?_ | refine ex_appR ?_ _ | refine ex_wx ?_ _ | refine ex_drew ?_ | refine ex_alloc ?_ _)) k2, hc2⟩
end Go.Proofs.YtcdocklbpfdmeaaDoor

/- Collide: among, Spans, Span. -/
set_option linter.unusedSimpArgs false
set_option linter.unusedVariables false
set_option linter.unnecessarySimpa false
set_option maxRecDepth 20000
namespace Go.Proofs.YtcdocklbpfdmeaaDoor
open Go.RowKit
def amongL (l : List Pr) (r : Rg) : List Pr := l.filter fun p => inP r p.1
theorem amongL_len (l : List Pr) (r : Rg) : (amongL l r).length ≤ l.length := List.length_filter_le _ _
def PostAm (w : World) (l : List Pr) (e : Ending) (w' : World) : Prop := ∃ v, e = .returned v ∧ OwnP w' w.heap.size v l ∧ ∃ X, w' = wx w X
set_option maxHeartbeats 1000000 in
theorem among_any (r : Rg) (l : List Pr) (a : Option Addr) (c : Nat) (w : World) (hl : l.length ≤ 300) (hc : l.length ≤ c) (hcm : c ≤ maxLen) (hs : SlP w a l) :
    Calls Tryd.prog 58 #[.slice a l.length c, .agg (RC r)] w (PostAm w (amongL l r)) := by
  obtain ⟨n, hn⟩ : ∃ n, l.length = n := ⟨_, rfl⟩
  have HN : Hid (l.length = n) := Lib.hid hn
  rw [hn] at hc hl ⊢
  clear hn
  unfold maxLen at hcm
  obtain ⟨lo, hi, op⟩ := r
  unfold RC
  dsimp only
  go_enter Tryd.func58, Tryd.ntmps58
  go_wp2
  go_loopw [5, 10] (fun v i W' => ∃ k : Nat, k ≤ n ∧ i = I k ∧ Hid (OwnP W' (w.alloc (.cells #[.string lo, .string hi, .bool op] 24)).heap.size v (amongL (l.take k) ⟨lo, hi, op⟩)) ∧ Ex (w.alloc (.cells #[.string lo, .string hi, .bool op] 24)) W') (fun _ i _ => n - (intOf i).toNat)
  case atStart => exact ⟨0, by omega, rfl, Lib.hid (ownp_nil _ _), (by (try show Ex _ _); with_reducible repeat (first | exact ex_refl _ | assumption | refine ex_drewL ?_ | refine ex_appR ?_ _ | refine ex_wx ?_ _ | refine ex_drew ?_ | refine ex_alloc ?_ _))⟩
  case round =>
    obtain ⟨k, hk, rfl, HO, ⟨X, rfl⟩⟩ := hrel
    by_cases hlt : k < n
    · obtain ⟨g, off, rfl, hg, hcell⟩ := hs.pos (by rw [HN.out]; omega)
      obtain ⟨⟨x, y⟩, hxy⟩ : ∃ p, l[k]? = some p := ⟨_, List.getElem?_eq_getElem (by rw [HN.out]; omega)⟩
      have hc1 : cellsN w g (off + k * 2) 2 = some #[.string x, .string y] := hcell k _ hxy
      have hl0 : ((amongL (l.take k) ⟨lo, hi, op⟩).length) ≤ k := Nat.le_trans (amongL_len _ _) (by rw [List.length_take]; omega)
      have HI := Lib.hid (fun w' => in_any ⟨lo, hi, op⟩ x w')
      unfold RC at HI
      dsimp only at HI
      have HT : Hid (amongL (l.take (k + 1)) ⟨lo, hi, op⟩ = amongL (l.take k) ⟨lo, hi, op⟩ ++ (if inP ⟨lo, hi, op⟩ x then [(x, y)] else [])) := Lib.hid (by
        obtain ⟨h1, h2⟩ := List.getElem?_eq_some_iff.1 hxy
        unfold amongL
        rw [List.take_succ_eq_append_getElem h1, List.filter_append, h2, List.filter_cons, List.filter_nil])
      generalize inP ⟨lo, hi, op⟩ x = b at HI HT
      clear hcell hs hxy
      cases b with
      | false =>
        have HT2 : Hid (amongL (l.take (k + 1)) ⟨lo, hi, op⟩ = amongL (l.take k) ⟨lo, hi, op⟩) := Lib.hid (by have := HT.out; simpa using this)
        go_wp2_with (go_at_call 17; (with_reducible refine (HI.out _).mono ?_); rintro e w2 ⟨rfl, X3, rfl⟩)
        exact ⟨⟨k + 1, by omega, by go_num, Lib.hid (by rw [HT2.out]; exact HO.out.ex (by (try show Ex _ _); with_reducible repeat (first | exact ex_refl _ | assumption | refine ex_drewL ?_ | refine ex_appR ?_ _ | refine ex_wx ?_ _ | refine ex_drew ?_ | refine ex_alloc ?_ _))), (by (try show Ex _ _); with_reducible repeat (first | exact ex_refl _ | assumption | refine ex_drewL ?_ | refine ex_appR ?_ _ | refine ex_wx ?_ _ | refine ex_drew ?_ | refine ex_alloc ?_ _))⟩, by simp [intOf]; omega⟩
      | true =>
        have HT2 : Hid (amongL (l.take (k + 1)) ⟨lo, hi, op⟩ = amongL (l.take k) ⟨lo, hi, op⟩ ++ [(x, y)]) := Lib.hid (by have := HT.out; simpa using this)
        have hsl := Lib.hid (fun (w0 : World) w' (gg : Nat) (k' : Ex (w0.alloc (.cells #[.string x, .string y] 42)) w') (hgg : gg = w0.heap.size) => slp_oneF (x, y) k' hgg)
        go_wp2_with (first | (go_at_call 17; (with_reducible refine (HI.out _).mono ?_); rintro e w2 ⟨rfl, X3, rfl⟩) | (at_builtin; refine wpAppP (r := [(x, y)]) _ _ rfl rfl (HO.out.ex (by (try show Ex _ _); with_reducible repeat (first | exact ex_refl _ | assumption | refine ex_drewL ?_ | refine ex_appR ?_ _ | refine ex_wx ?_ _ | refine ex_drew ?_ | refine ex_alloc ?_ _))) rfl rfl rfl (hsl.out _ _ _ (by (try show Ex _ _); with_reducible repeat (first | exact ex_refl _ | assumption | refine ex_drewL ?_ | refine ex_appR ?_ _ | refine ex_wx ?_ _ | refine ex_drew ?_ | refine ex_alloc ?_ _)) (by simp [go_sem])) (by simp only [List.length_singleton]; omega) (by simp [go_sem] <;> omega) (fun v1 w1 hown1 hbe => ?_); obtain ⟨X8, rfl⟩ := exOf (A := w.alloc (.cells #[.string lo, .string hi, .bool op] 24)) (by (try show Ex _ _); with_reducible repeat (first | exact ex_refl _ | assumption | refine ex_drewL ?_ | refine ex_appR ?_ _ | refine ex_wx ?_ _ | refine ex_drew ?_ | refine ex_alloc ?_ _)) hbe; rw [← HT2.out] at hown1; replace hown1 := Lib.hid hown1))
        exact ⟨⟨k + 1, by omega, by go_num, hown1, (by (try show Ex _ _); with_reducible repeat (first | exact ex_refl _ | assumption | refine ex_drewL ?_ | refine ex_appR ?_ _ | refine ex_wx ?_ _ | refine ex_drew ?_ | refine ex_alloc ?_ _))⟩, by simp [intOf]; omega⟩
    · obtain rfl : k = n := by omega
      have HT : Hid (l.take k = l) := Lib.hid (List.take_of_length_le (by rw [HN.out]; omega))
      clear hlt hk hs
      go_wp2
      go_ret
      exact ⟨_, rfl, by have h := HO.out; rw [HT.out] at h; exact owns_le (h.ex (by (try show Ex _ _); with_reducible repeat (first | exact ex_refl _ | assumption | refine ex_drewL ?_ | refine ex_appR ?_ _ | refine ex_wx ?_ _ | refine ex_drew ?_ | refine ex_alloc ?_ _))) (by simp [go_sem]), (by (try show Ex _ _); with_reducible repeat (first | exact ex_refl _ | assumption | refine ex_drewL ?_ | refine ex_appR ?_ _ | refine ex_wx ?_ _ | refine ex_drew ?_ | refine ex_alloc ?_ _))⟩
set_option maxHeartbeats 1000000 in
theorem refamong_any (r : Rg) (l : List Pr) (a : Option Addr) (c : Nat) (w : World) (hl : l.length ≤ 300) (hc : l.length ≤ c) (hcm : c ≤ maxLen) (hs : SlP w a l) :
    Calls Tryd.prog 93 #[.slice a l.length c, .agg (RC r)] w (PostAm w (amongL l r)) := by
  obtain ⟨n, hn⟩ : ∃ n, l.length = n := ⟨_, rfl⟩
  have HN : Hid (l.length = n) := Lib.hid hn
  rw [hn] at hc hl ⊢
  clear hn
  unfold maxLen at hcm
  obtain ⟨lo, hi, op⟩ := r
  unfold RC
  dsimp only
  go_enter Tryd.func93, Tryd.ntmps93
  go_wp2
  go_loopw [5, 10] (fun v i W' => ∃ k : Nat, k ≤ n ∧ i = I k ∧ Hid (OwnP W' (w.alloc (.cells #[.string lo, .string hi, .bool op] 24)).heap.size v (amongL (l.take k) ⟨lo, hi, op⟩)) ∧ Ex (w.alloc (.cells #[.string lo, .string hi, .bool op] 24)) W') (fun _ i _ => n - (intOf i).toNat)
  case atStart => exact ⟨0, by omega, rfl, Lib.hid (ownp_nil _ _), (by (try show Ex _ _); with_reducible repeat (first | exact ex_refl _ | assumption | refine ex_drewL ?_ | refine ex_appR ?_ _ | refine ex_wx ?_ _ | refine ex_drew ?_ | refine ex_alloc ?_ _))⟩
  case round =>
    obtain ⟨k, hk, rfl, HO, ⟨X, rfl⟩⟩ := hrel
    by_cases hlt : k < n
    · obtain ⟨g, off, rfl, hg, hcell⟩ := hs.pos (by rw [HN.out]; omega)
      obtain ⟨⟨x, y⟩, hxy⟩ : ∃ p, l[k]? = some p := ⟨_, List.getElem?_eq_getElem (by rw [HN.out]; omega)⟩
      have hc1 : cellsN w g (off + k * 2) 2 = some #[.string x, .string y] := hcell k _ hxy
      have hl0 : ((amongL (l.take k) ⟨lo, hi, op⟩).length) ≤ k := Nat.le_trans (amongL_len _ _) (by rw [List.length_take]; omega)
      have HI := Lib.hid (fun w' => refin_any ⟨lo, hi, op⟩ x w')
      unfold RC at HI
      dsimp only at HI
      have HT : Hid (amongL (l.take (k + 1)) ⟨lo, hi, op⟩ = amongL (l.take k) ⟨lo, hi, op⟩ ++ (if inP ⟨lo, hi, op⟩ x then [(x, y)] else [])) := Lib.hid (by
        obtain ⟨h1, h2⟩ := List.getElem?_eq_some_iff.1 hxy
        unfold amongL
        rw [List.take_succ_eq_append_getElem h1, List.filter_append, h2, List.filter_cons, List.filter_nil])
      generalize inP ⟨lo, hi, op⟩ x = b at HI HT
      clear hcell hs hxy
      cases b with
      | false =>
        have HT2 : Hid (amongL (l.take (k + 1)) ⟨lo, hi, op⟩ = amongL (l.take k) ⟨lo, hi, op⟩) := Lib.hid (by have := HT.out; simpa using this)
        go_wp2_with (go_at_call 128; (with_reducible refine (HI.out _).mono ?_); rintro e w2 ⟨rfl, X3, rfl⟩)
        exact ⟨⟨k + 1, by omega, by go_num, Lib.hid (by rw [HT2.out]; exact HO.out.ex (by (try show Ex _ _); with_reducible repeat (first | exact ex_refl _ | assumption | refine ex_drewL ?_ | refine ex_appR ?_ _ | refine ex_wx ?_ _ | refine ex_drew ?_ | refine ex_alloc ?_ _))), (by (try show Ex _ _); with_reducible repeat (first | exact ex_refl _ | assumption | refine ex_drewL ?_ | refine ex_appR ?_ _ | refine ex_wx ?_ _ | refine ex_drew ?_ | refine ex_alloc ?_ _))⟩, by simp [intOf]; omega⟩
      | true =>
        have HT2 : Hid (amongL (l.take (k + 1)) ⟨lo, hi, op⟩ = amongL (l.take k) ⟨lo, hi, op⟩ ++ [(x, y)]) := Lib.hid (by have := HT.out; simpa using this)
        have hsl := Lib.hid (fun (w0 : World) w' (gg : Nat) (k' : Ex (w0.alloc (.cells #[.string x, .string y] 42)) w') (hgg : gg = w0.heap.size) => slp_oneF (x, y) k' hgg)
        go_wp2_with (first | (go_at_call 128; (with_reducible refine (HI.out _).mono ?_); rintro e w2 ⟨rfl, X3, rfl⟩) | (at_builtin; refine wpAppP (r := [(x, y)]) _ _ rfl rfl (HO.out.ex (by (try show Ex _ _); with_reducible repeat (first | exact ex_refl _ | assumption | refine ex_drewL ?_ | refine ex_appR ?_ _ | refine ex_wx ?_ _ | refine ex_drew ?_ | refine ex_alloc ?_ _))) rfl rfl rfl (hsl.out _ _ _ (by (try show Ex _ _); with_reducible repeat (first | exact ex_refl _ | assumption | refine ex_drewL ?_ | refine ex_appR ?_ _ | refine ex_wx ?_ _ | refine ex_drew ?_ | refine ex_alloc ?_ _)) (by simp [go_sem])) (by simp only [List.length_singleton]; omega) (by simp [go_sem] <;> omega) (fun v1 w1 hown1 hbe => ?_); obtain ⟨X8, rfl⟩ := exOf (A := w.alloc (.cells #[.string lo, .string hi, .bool op] 24)) (by (try show Ex _ _); with_reducible repeat (first | exact ex_refl _ | assumption | refine ex_drewL ?_ | refine ex_appR ?_ _ | refine ex_wx ?_ _ | refine ex_drew ?_ | refine ex_alloc ?_ _)) hbe; rw [← HT2.out] at hown1; replace hown1 := Lib.hid hown1))
        exact ⟨⟨k + 1, by omega, by go_num, hown1, (by (try show Ex _ _); with_reducible repeat (first | exact ex_refl _ | assumption | refine ex_drewL ?_ | refine ex_appR ?_ _ | refine ex_wx ?_ _ | refine ex_drew ?_ | refine ex_alloc ?_ _))⟩, by simp [intOf]; omega⟩
    · obtain rfl : k = n := by omega
      have HT : Hid (l.take k = l) := Lib.hid (List.take_of_length_le (by rw [HN.out]; omega))
      clear hlt hk hs
      go_wp2
      go_ret
      exact ⟨_, rfl, by have h := HO.out; rw [HT.out] at h; exact owns_le (h.ex (by (try show Ex _ _); with_reducible repeat (first | exact ex_refl _ | assumption | refine ex_drewL ?_ | refine ex_appR ?_ _ | refine ex_wx ?_ _ | refine ex_drew ?_ | refine ex_alloc ?_ _))) (by simp [go_sem]), (by (try show Ex _ _); with_reducible repeat (first | exact ex_refl _ | assumption | refine ex_drewL ?_ | refine ex_appR ?_ _ | refine ex_wx ?_ _ | refine ex_drew ?_ | refine ex_alloc ?_ _))⟩
end Go.Proofs.YtcdocklbpfdmeaaDoor

/- Collide's document: is a span formed; are its ends right. -/
set_option linter.unusedSimpArgs false
set_option linter.unusedVariables false
set_option linter.unnecessarySimpa false
set_option maxRecDepth 20000
namespace Go.Proofs.YtcdocklbpfdmeaaDoor
open Go.RowKit
def okP (T F : Int) (ps : List Pr) : Bool := decide (0 ≤ T ∧ T ≤ 200 ∧ 0 ≤ F ∧ F ≤ T ∧ (ps.length : Int) ≤ T - F ∧ (0 < ps.length ∨ T = 0)) && rightP ps
set_option maxHeartbeats 2000000 in
theorem refformed_any (T F : Int) (ps : List Pr) (pa : Option Addr) (pc : Nat) (qa : Option Addr) (qn qc : Nat) (w : World) (hpc : ps.length ≤ pc) (hpm : pc ≤ maxLen) (hPs : SlP w pa ps) :
    Calls Tryd.prog 89 #[.agg #[I T, I F, .slice pa ps.length pc, .slice qa qn qc]] w (Post w (.bool (okP T F ps))) := by
  unfold okP
  have hpm' := hpm
  unfold maxLen at hpm
  have HK := Lib.hid fun w' (k : Ex w w') => Right_any ps pa pc w' hpc hpm' (hPs.ex k)
  generalize rightP ps = rb at HK ⊢
  generalize ps.length = pn at *
  clear hPs
  by_cases hok : 0 ≤ T ∧ T ≤ 200 ∧ 0 ≤ F ∧ F ≤ T ∧ (pn : Int) ≤ T - F ∧ (0 < pn ∨ T = 0)
  · rw [decide_eq_true hok, Bool.true_and]
    obtain ⟨k1, k2, k3, k4, k5, k6⟩ := hok
    have t1 : decide (0 ≤ T) = true := decide_eq_true k1
    have t2 : decide (T ≤ 200) = true := decide_eq_true k2
    have t3 : decide (0 ≤ F) = true := decide_eq_true k3
    have t4 : decide (F ≤ T) = true := decide_eq_true k4
    have t5 : decide ((pn : Int) ≤ T - F) = true := decide_eq_true k5
    by_cases h0 : pn = 0
    · have hT : T = 0 := by omega
      subst h0 hT
      clear k1 k2 k6 t1 t2
      go_enter Tryd.func89, Tryd.ntmps89
      go_wp2_with (go_at_call 45; (with_reducible refine (HK.out _ (by (try show Ex _ _); with_reducible repeat (first | exact ex_refl _ | assumption | refine ex_drewL ?_ | refine ex_appR ?_ _ | refine ex_wx ?_ _ | refine ex_drew ?_ | refine ex_alloc ?_ _))).mono ?_); rintro e w2 ⟨rfl, X, rfl⟩)
      go_ret
      exact post_mk rfl (by (try show Ex _ _); with_reducible repeat (first | exact ex_refl _ | assumption | refine ex_drewL ?_ | refine ex_appR ?_ _ | refine ex_wx ?_ _ | refine ex_drew ?_ | refine ex_alloc ?_ _))
    · have t6 : decide ((0 : Int) < pn) = true := decide_eq_true (by omega)
      have t6' : decide (0 < pn) = true := decide_eq_true (by omega)
      clear k6
      go_enter Tryd.func89, Tryd.ntmps89
      go_wp2_with (go_at_call 45; (with_reducible refine (HK.out _ (by (try show Ex _ _); with_reducible repeat (first | exact ex_refl _ | assumption | refine ex_drewL ?_ | refine ex_appR ?_ _ | refine ex_wx ?_ _ | refine ex_drew ?_ | refine ex_alloc ?_ _))).mono ?_); rintro e w2 ⟨rfl, X, rfl⟩)
      go_ret
      exact post_mk rfl (by (try show Ex _ _); with_reducible repeat (first | exact ex_refl _ | assumption | refine ex_drewL ?_ | refine ex_appR ?_ _ | refine ex_wx ?_ _ | refine ex_drew ?_ | refine ex_alloc ?_ _))
  · rw [decide_eq_false hok, Bool.false_and]
    by_cases h1 : 0 ≤ T
    · have t1 : decide (0 ≤ T) = true := decide_eq_true h1
      by_cases h2 : T ≤ 200
      · have t2 : decide (T ≤ 200) = true := decide_eq_true h2
        by_cases h3 : 0 ≤ F
        · have t3 : decide (0 ≤ F) = true := decide_eq_true h3
          by_cases h4 : F ≤ T
          · have t4 : decide (F ≤ T) = true := decide_eq_true h4
            by_cases h5 : (pn : Int) ≤ T - F
            · have t5 : decide ((pn : Int) ≤ T - F) = true := decide_eq_true h5
              have h6 : pn = 0 := by omega
              have t6 : decide ((0 : Int) < pn) = false := decide_eq_false (by omega)
              have t6' : decide (0 < pn) = false := decide_eq_false (by omega)
              have t7 : (T == 0) = false := beq_eq_false_iff_ne.2 (by omega)
              subst h6
              clear hok
              go_enter Tryd.func89, Tryd.ntmps89
              go_wp2
              go_ret
              exact post_mk rfl (by (try show Ex _ _); with_reducible repeat (first | exact ex_refl _ | assumption | refine ex_drewL ?_ | refine ex_appR ?_ _ | refine ex_wx ?_ _ | refine ex_drew ?_ | refine ex_alloc ?_ _))
            · have t5 : decide ((pn : Int) ≤ T - F) = false := decide_eq_false h5
              clear hok
              go_enter Tryd.func89, Tryd.ntmps89
              go_wp2
              go_ret
              exact post_mk rfl (by (try show Ex _ _); with_reducible repeat (first | exact ex_refl _ | assumption | refine ex_drewL ?_ | refine ex_appR ?_ _ | refine ex_wx ?_ _ | refine ex_drew ?_ | refine ex_alloc ?_ _))
          · have t4 : decide (F ≤ T) = false := decide_eq_false h4
            clear hok
            go_enter Tryd.func89, Tryd.ntmps89
            go_wp2
            go_ret
            exact post_mk rfl (by (try show Ex _ _); with_reducible repeat (first | exact ex_refl _ | assumption | refine ex_drewL ?_ | refine ex_appR ?_ _ | refine ex_wx ?_ _ | refine ex_drew ?_ | refine ex_alloc ?_ _))
        · have t3 : decide (0 ≤ F) = false := decide_eq_false h3
          clear hok
          go_enter Tryd.func89, Tryd.ntmps89
          go_wp2
          go_ret
          exact post_mk rfl (by (try show Ex _ _); with_reducible repeat (first | exact ex_refl _ | assumption | refine ex_drewL ?_ | refine ex_appR ?_ _ | refine ex_wx ?_ _ | refine ex_drew ?_ | refine ex_alloc ?_ _))
      · have t2 : decide (T ≤ 200) = false := decide_eq_false h2
        clear hok
        go_enter Tryd.func89, Tryd.ntmps89
        go_wp2
        go_ret
        exact post_mk rfl (by (try show Ex _ _); with_reducible repeat (first | exact ex_refl _ | assumption | refine ex_drewL ?_ | refine ex_appR ?_ _ | refine ex_wx ?_ _ | refine ex_drew ?_ | refine ex_alloc ?_ _))
    · have t1 : decide (0 ≤ T) = false := decide_eq_false h1
      clear hok
      go_enter Tryd.func89, Tryd.ntmps89
      go_wp2
      go_ret
      exact post_mk rfl (by (try show Ex _ _); with_reducible repeat (first | exact ex_refl _ | assumption | refine ex_drewL ?_ | refine ex_appR ?_ _ | refine ex_wx ?_ _ | refine ex_drew ?_ | refine ex_alloc ?_ _))
set_option maxHeartbeats 2000000 in
theorem refends_any (r : Rg) (T F : Int) (ps : List Pr) (pa : Option Addr) (pc : Nat) (qa : Option Addr) (qn qc : Nat) (w : World) (hF : 0 ≤ F) (hF2 : F ≤ 1000) (hT : T ≤ 1000) (hn : ps.length ≤ 1000) (hpc : ps.length ≤ pc) (hpm : pc ≤ maxLen) (hPs : SlP w pa ps) :
    Calls Tryd.prog 90 #[.agg (RC r), .agg #[I T, I F, .slice pa ps.length pc, .slice qa qn qc]] w (Post w (.bool (endC r T F ps))) := by
  obtain ⟨lo, hi, op⟩ := r
  unfold RC
  unfold maxLen at hpm
  obtain ⟨Fn, rfl⟩ : ∃ Fn : Nat, F = Fn := ⟨F.toNat, by omega⟩
  by_cases h0 : ps.length = 0
  · have hE : endC ⟨lo, hi, op⟩ T Fn ps = true := by unfold endC; rw [decide_eq_true h0]; rfl
    rw [hE]
    clear hE hPs
    have t7 : ((ps.length : Int) == 0) = true := by rw [h0]; rfl
    generalize ps.length = pn at *
    subst h0
    go_enter Tryd.func90, Tryd.ntmps90
    go_wp2
    go_ret
    exact post_mk rfl (by (try show Ex _ _); with_reducible repeat (first | exact ex_refl _ | assumption | refine ex_drewL ?_ | refine ex_appR ?_ _ | refine ex_wx ?_ _ | refine ex_drew ?_ | refine ex_alloc ?_ _))
  · have t7 : ((ps.length : Int) == 0) = false := beq_eq_false_iff_ne.2 (by omega)
    obtain ⟨g, off, rfl, hg, _, r1, _⟩ := hPs.row (i := 0) (by omega)
    obtain ⟨g2, off2, he2, _, _, r2, _⟩ := hPs.row (i := ps.length - 1) (by omega)
    cases he2
    rw [Nat.zero_mul, Nat.add_zero] at r1
    have hE : endC ⟨lo, hi, op⟩ T Fn ps = ((!decide ((0 : Int) < Fn) || ltS (prAt ps 0).1 lo) && (decide ((Fn : Int) + ps.length = T) || (!ltS (prAt ps (ps.length - 1)).1 lo && !inP ⟨lo, hi, op⟩ (prAt ps (ps.length - 1)).1))) := by
      unfold endC keyAt; rw [decide_eq_false h0, Bool.false_or]
      rw [show decide ((Fn : Int) = 0) = !decide ((0 : Int) < Fn) from by rw [Bool.eq_iff_iff]; simp; try omega]
    rw [hE]
    have HI := Lib.hid fun w' => refin_any ⟨lo, hi, op⟩ (prAt ps (ps.length - 1)).1 w'
    unfold RC at HI
    generalize (prAt ps 0).1 = key0 at r1 ⊢
    generalize (prAt ps (ps.length - 1)).1 = key1 at r2 HI ⊢
    obtain ⟨b1, e1⟩ : ∃ b, Op.bytesLess key0.toList lo.toList = b := ⟨_, rfl⟩
    obtain ⟨b2, e2⟩ : ∃ b, Op.bytesLess key1.toList lo.toList = b := ⟨_, rfl⟩
    unfold ltS
    rw [e1, e2]
    generalize inP ⟨lo, hi, op⟩ key1 = b3 at HI ⊢
    obtain ⟨b4, e4⟩ : ∃ b, decide ((0 : Int) < Fn) = b := ⟨_, rfl⟩
    have e4' : decide (0 < Fn) = b4 := by rw [← e4, Bool.eq_iff_iff]; simp
    have e5 : ((Fn : Int) + ps.length == T) = decide ((Fn : Int) + ps.length = T) := rfl
    rw [e4]
    generalize decide ((Fn : Int) + ps.length = T) = b5 at e5 ⊢
    generalize hm : ps.length - 1 = m at *
    generalize ps.length = pn at *
    have hn1 : ((pn : Int) - 1) = (m : Int) := by omega
    have hmn : (m : Int) < pn := by omega
    have hmc : (m : Int) < pc := by omega
    have h0n : (0 : Int) < pn := by omega
    clear hE hPs
    cases b4 <;> cases b1 <;> cases b5 <;> cases b2
    all_goals
      go_enter Tryd.func90, Tryd.ntmps90
      go_wp2
      refine wp_region_seq [(0, true), (1, true), (2, true), (3, true), (4, true), (5, true), (6, true), (7, true), (8, true), (9, true), (10, true), (11, true), (12, true), (13, true)] (by kernel_rfl) (by kernel_rfl) (fun _ _ d _ _ h => by cases d <;> exact h) ?_
      simp only [List.map_cons, List.map_nil, nth]
      repeat (first | ((with_reducible refine wpSeq_look ?_); go_big_quiet_step (fail); (with_reducible refine wpQuiet_nil ?_)) | ((with_reducible refine wpSeq_effF ?_ ?_); (focus rfl); go_simp) | ((with_reducible refine wpSeq_eff ?_ ?_); (focus rfl); (try dsimp only); go_wp2_with (fail); refine mixQ_mk (by (try show Ex _ _); with_reducible repeat (first | exact ex_refl _ | assumption | refine ex_drewL ?_ | refine ex_appR ?_ _ | refine ex_wx ?_ _ | refine ex_drew ?_ | refine ex_alloc ?_ _)) ?_))
      refine wpSeq_nil ?_
      go_wp2_with (go_at_call 128; (with_reducible refine (HI.out _).mono ?_); rintro e w2 ⟨rfl, X2, rfl⟩)
      go_ret
      exact post_mk (by simp) (by (try show Ex _ _); with_reducible repeat (first | exact ex_refl _ | assumption | refine ex_drewL ?_ | refine ex_appR ?_ _ | refine ex_wx ?_ _ | refine ex_drew ?_ | refine ex_alloc ?_ _))
end Go.Proofs.YtcdocklbpfdmeaaDoor
