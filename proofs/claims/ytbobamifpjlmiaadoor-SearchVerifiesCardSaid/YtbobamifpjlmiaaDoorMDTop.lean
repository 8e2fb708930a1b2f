import Derived.Test.YtbobamifpjlmiaaDoorMBackS

/- The document's top of a span, by its walk: what it computes. -/
set_option linter.unusedSimpArgs false
set_option linter.unusedVariables false
set_option maxRecDepth 20000
namespace Go.Proofs.YtbobamifpjlmiaaDoor
open Go.RowKit
/-- A result in memory, and two beside it. -/
theorem ret_rowVV {P : Program} {fn : Func} {p q q2 : Tmp} {ty : TypeId} {d : TypeDesc} {n b : Nat} {cs : Array Value} {v v2 : Value} {R : Ending → World → Prop} {a : Act} {w : World} (h : fn.results = #[.cell p ty, .tmp q, .tmp q2])
    (hu : P.underlying ty = some d) (hd : d.isRow = true) (hi : (P.info? ty).map (·.size) = some n) (hp : a.tmps.getD p undef = .pointer (some ⟨b, 0, none⟩)) (hc : cellsN w b 0 n = some cs) (hq : a.tmps.getD q undef = v) (hq2 : a.tmps.getD q2 undef = v2) (hdf : a.defers = [])
    (hR : R (.returned (.tuple #[.agg cs, v, v2])) w) : bodyPost P fn R .ret a w := by
  have h1 := (cellsN_some.1 hc).1
  have hrun := run_loadVar_mid (P := P) w b 0 ty cs.toList d (cellsN_range hc) hu hd (by rw [hi]; simp [h1])
  have hp' : a.tmps[p]?.getD undef = .pointer (some ⟨b, 0, none⟩) := by simpa using hp
  have hq' : a.tmps[q]?.getD undef = v := by simpa using hq
  have hq2' : a.tmps[q2]?.getD undef = v2 := by simpa using hq2
  exact bodyPost_ret (by simp [results, h, hp', hq', hq2', asAddr, hrun]) hdf hR
/-- A top, what is left of the path; or none. -/
def PostTp (A : World) (o : Option (Dg × List Dg)) (W : World) (e : Ending) (w' : World) : Prop := ∃ (d : Dg) (q : List Dg) (a : Option Addr) (c : Nat), e = .returned (.tuple #[.agg (rowB 32 (dF d)), .slice a q.length c, .bool o.isSome]) ∧ (∀ x, o = some x → x = (d, q)) ∧
  (q.length ≤ c ∧ c ≤ maxLen ∧ SlD A a q) ∧ ∃ X, w' = wx W X
/-- None, one. -/
def PostTpN (A W : World) (e : Ending) (w' : World) : Prop := ∃ (d : Dg) (n : Nat) (q : List Dg) (a : Option Addr) (c : Nat), e = .returned (.tuple #[.agg (rowB 32 (dF d)), .slice a n c, .bool false]) ∧ (q.length = n ∧ n ≤ c ∧ c ≤ maxLen ∧ SlD A a q) ∧ ∃ X, w' = wx W X
def PostTpS (A : World) (d : Dg) (q : List Dg) (n : Nat) (W : World) (e : Ending) (w' : World) : Prop := ∃ (a : Option Addr) (c : Nat), e = .returned (.tuple #[.agg (rowB 32 (dF d)), .slice a n c, .bool true]) ∧ (n ≤ c ∧ c ≤ maxLen ∧ SlD A a q) ∧ ∃ X, w' = wx W X
theorem postTp_none {A W w' : World} {e : Ending} (h : PostTp A none W e w') : PostTpN A W e w' := by
  obtain ⟨d, q, a, c, h1, _, ⟨h3, h4, h5⟩, h6⟩ := h
  exact ⟨d, q.length, q, a, c, h1, ⟨rfl, h3, h4, h5⟩, h6⟩
theorem postTp_some {A W w' : World} {e : Ending} {d : Dg} {q : List Dg} {n : Nat} (hn : q.length = n) (h : PostTp A (some (d, q)) W e w') : PostTpS A d q n W e w' := by
  obtain ⟨d2, q2, a, c, h1, h2, h3, h6⟩ := h
  have := h2 _ rfl
  simp only [Prod.mk.injEq] at this
  obtain ⟨rfl, rfl⟩ := this
  subst hn
  exact ⟨a, c, h1, h3, h6⟩
theorem postTp_mkS {A W w' : World} {d : Dg} {q : List Dg} {n : Nat} {a : Option Addr} {c : Nat} (hn : q.length = n) (h1 : n ≤ c) (h2 : c ≤ maxLen) (h3 : SlD A a q) (k : Ex W w') : PostTp A (some (d, q)) W (.returned (.tuple #[.agg (rowB 32 (dF d)), .slice a n c, .bool true])) w' := by
  subst hn
  exact ⟨d, q, a, c, rfl, fun x hx => (Option.some.inj hx).symm, ⟨h1, h2, h3⟩, k⟩
set_option maxHeartbeats 4000000 in
theorem dt_out {A : World} (ps : List Pr) (F : Nat) (T : Int) (pa qa0 : Option Addr) (pc L0 qc0 : Nat) (hpc : ps.length ≤ pc) (hpm : pc ≤ maxLen) (hsm : smallP ps) (hFL : F + ps.length ≤ 1000) (N at_ : Nat) (q0 : List Dg) (a : Option Addr) (qc : Nat) (w : World) (h1 : 1 ≤ N) (hat : at_ + N ≤ 1000) (hqc : q0.length ≤ qc) (hqm : qc ≤ maxLen) (kA : Ex A w) (hps : SlP A pa ps) (hqs : SlD A a q0) (ho : at_ + N ≤ F ∨ F + ps.length ≤ at_) :
    Calls Tryd.prog 81 #[.agg #[I T, I F, .slice pa ps.length pc, .slice qa0 L0 qc0], I at_, I N, .slice a q0.length qc] w (PostTp A (topR ps F at_ N q0) w) := by
  unfold maxLen at hqm hpm
  cases q0 with
  | nil =>
    rw [topR_nil ho]
    clear hps hqs hsm
    simp only [List.length_nil] at hqc ⊢
    by_cases d1 : at_ + N ≤ F
    · have d1t : decide ((at_ : Int) + N ≤ F) = true := decide_eq_true (by omega)
      clear ho d1
      go_enter Tryd.func81, Tryd.ntmps81
      go_wp2
      exact ret_rowVV (cs := rowB 32 fun _ => 0) (v := .slice none 0 0) (v2 := .bool false) Tryd.results81 Tryd.underlying26 rfl info_id rfl (by simp [go_sem] <;> (repeat (first | rw [if_pos (by omega)] | rw [if_neg (by omega)]))) rfl rfl rfl ⟨zeroD, [], none, 0, by rw [row_zero]; rfl, fun x hx => by (cases hx), ⟨by simp, by decide, SlD.nil _ _⟩, (by (try show Ex _ _); repeat (first | (with_reducible exact ex_refl _) | (with_reducible assumption) | (with_reducible refine ex_drewL ?_) | (with_reducible refine ex_appR ?_ _) | (with_reducible refine ex_wx ?_ _) | (with_reducible refine ex_drew ?_) | (with_reducible refine ex_alloc ?_ _)))⟩
    · have d1t : decide ((at_ : Int) + N ≤ F) = false := decide_eq_false (by omega)
      have d2t : decide ((F : Int) + ps.length ≤ at_) = true := decide_eq_true (by omega)
      have d2u : decide (F + ps.length ≤ at_) = true := decide_eq_true (by omega)
      clear ho d1
      go_enter Tryd.func81, Tryd.ntmps81
      go_wp2
      exact ret_rowVV (cs := rowB 32 fun _ => 0) (v := .slice none 0 0) (v2 := .bool false) Tryd.results81 Tryd.underlying26 rfl info_id rfl (by simp [go_sem] <;> (repeat (first | rw [if_pos (by omega)] | rw [if_neg (by omega)]))) rfl rfl rfl ⟨zeroD, [], none, 0, by rw [row_zero]; rfl, fun x hx => by (cases hx), ⟨by simp, by decide, SlD.nil _ _⟩, (by (try show Ex _ _); repeat (first | (with_reducible exact ex_refl _) | (with_reducible assumption) | (with_reducible refine ex_drewL ?_) | (with_reducible refine ex_appR ?_ _) | (with_reducible refine ex_wx ?_ _) | (with_reducible refine ex_drew ?_) | (with_reducible refine ex_alloc ?_ _)))⟩
  | cons d q =>
    rw [topR_out ho]
    obtain ⟨g, off, rfl, hg, hcell⟩ := (hqs.ex kA).pos (by simp)
    have h1c := hcell 0 d rfl
    rw [Nat.zero_mul, Nat.add_zero] at h1c
    have hdr := hqs.drop 1
    rw [Nat.one_mul, List.drop_one, List.tail_cons] at hdr
    rw [List.length_cons] at hqc ⊢
    have k1 : (1 : Int) ≤ q.length + 1 := by omega
    have k2 : (1 : Int) ≤ qc := by omega
    have k3 : ((q.length : Int) + 1 == 0) = false := beq_eq_false_iff_ne.2 (by omega)
    have k4 : (q.length : Int) + 1 ≤ qc := by omega
    clear hps hsm hcell
    by_cases hq1 : qc = 1
    · subst hq1
      have hq0 : q.length = 0 := by omega
      obtain rfl := List.eq_nil_of_length_eq_zero hq0
      have HDR : Hid (∀ {aa}, SlD A aa []) := Lib.hid (SlD.nil _ _)
      clear hdr hqs
      simp only [List.length_nil] at k1 k3 k4 hqc ⊢
      by_cases d1 : at_ + N ≤ F
      · have d1t : decide ((at_ : Int) + N ≤ F) = true := decide_eq_true (by omega)
        clear ho d1
        go_enter Tryd.func81, Tryd.ntmps81
        go_wp2
        refine wp_region_seqA (w) [(0, true), (1, true), (2, true), (3, true), (4, true), (5, false), (6, true), (7, true)] (by (try show Ex _ _); repeat (first | (with_reducible exact ex_refl _) | (with_reducible assumption) | (with_reducible refine ex_drewL ?_) | (with_reducible refine ex_appR ?_ _) | (with_reducible refine ex_wx ?_ _) | (with_reducible refine ex_drew ?_) | (with_reducible refine ex_alloc ?_ _))) (by kernel_rfl) (by kernel_rfl) (fun _ _ d _ _ h => by cases d <;> exact h) ?_
        simp only [List.map_cons, List.map_nil, nth]
        repeat (first | ((with_reducible refine wpSeq_look ?_); go_big_quiet_step (fail); (with_reducible refine wpQuiet_nil ?_)) | ((with_reducible refine wpSeq_effF ?_ ?_); (focus rfl); go_simp) | ((with_reducible refine wpSeq_eff ?_ ?_); (focus rfl); (try dsimp only); go_wp2_with (fail); refine mixQ_mk (by (try show Ex _ _); repeat (first | (with_reducible exact ex_refl _) | (with_reducible assumption) | (with_reducible refine ex_drewL ?_) | (with_reducible refine ex_appR ?_ _) | (with_reducible refine ex_wx ?_ _) | (with_reducible refine ex_drew ?_) | (with_reducible refine ex_alloc ?_ _))) ?_))
        refine wpSeq_nil ?_
        go_wp2
        exact ret_rowVV (cs := rowB 32 (dF d)) (v2 := .bool true) Tryd.results81 Tryd.underlying26 rfl info_id rfl (by simp [go_sem] <;> (repeat (first | rw [if_pos (by omega)] | rw [if_neg (by omega)]))) rfl rfl rfl ⟨d, [], _, _, rfl, fun x hx => by (cases hx; rfl), ⟨by (first | omega | (simp only [List.length_nil]; omega)), by unfold maxLen; omega, HDR.out⟩, (by (try show Ex _ _); repeat (first | (with_reducible exact ex_refl _) | (with_reducible assumption) | (with_reducible refine ex_drewL ?_) | (with_reducible refine ex_appR ?_ _) | (with_reducible refine ex_wx ?_ _) | (with_reducible refine ex_drew ?_) | (with_reducible refine ex_alloc ?_ _)))⟩
      · have d1t : decide ((at_ : Int) + N ≤ F) = false := decide_eq_false (by omega)
        have d2t : decide ((F : Int) + ps.length ≤ at_) = true := decide_eq_true (by omega)
        have d2u : decide (F + ps.length ≤ at_) = true := decide_eq_true (by omega)
        clear ho d1
        go_enter Tryd.func81, Tryd.ntmps81
        go_wp2
        refine wp_region_seqA (w) [(0, true), (1, true), (2, true), (3, true), (4, true), (5, false), (6, true), (7, true)] (by (try show Ex _ _); repeat (first | (with_reducible exact ex_refl _) | (with_reducible assumption) | (with_reducible refine ex_drewL ?_) | (with_reducible refine ex_appR ?_ _) | (with_reducible refine ex_wx ?_ _) | (with_reducible refine ex_drew ?_) | (with_reducible refine ex_alloc ?_ _))) (by kernel_rfl) (by kernel_rfl) (fun _ _ d _ _ h => by cases d <;> exact h) ?_
        simp only [List.map_cons, List.map_nil, nth]
        repeat (first | ((with_reducible refine wpSeq_look ?_); go_big_quiet_step (fail); (with_reducible refine wpQuiet_nil ?_)) | ((with_reducible refine wpSeq_effF ?_ ?_); (focus rfl); go_simp) | ((with_reducible refine wpSeq_eff ?_ ?_); (focus rfl); (try dsimp only); go_wp2_with (fail); refine mixQ_mk (by (try show Ex _ _); repeat (first | (with_reducible exact ex_refl _) | (with_reducible assumption) | (with_reducible refine ex_drewL ?_) | (with_reducible refine ex_appR ?_ _) | (with_reducible refine ex_wx ?_ _) | (with_reducible refine ex_drew ?_) | (with_reducible refine ex_alloc ?_ _))) ?_))
        refine wpSeq_nil ?_
        go_wp2
        exact ret_rowVV (cs := rowB 32 (dF d)) (v2 := .bool true) Tryd.results81 Tryd.underlying26 rfl info_id rfl (by simp [go_sem] <;> (repeat (first | rw [if_pos (by omega)] | rw [if_neg (by omega)]))) rfl rfl rfl ⟨d, [], _, _, rfl, fun x hx => by (cases hx; rfl), ⟨by (first | omega | (simp only [List.length_nil]; omega)), by unfold maxLen; omega, HDR.out⟩, (by (try show Ex _ _); repeat (first | (with_reducible exact ex_refl _) | (with_reducible assumption) | (with_reducible refine ex_drewL ?_) | (with_reducible refine ex_appR ?_ _) | (with_reducible refine ex_wx ?_ _) | (with_reducible refine ex_drew ?_) | (with_reducible refine ex_alloc ?_ _)))⟩
    · have HDR : Hid (SlD A (some ⟨g, off + 32, none⟩) q) := Lib.hid hdr
      clear hdr hqs
      by_cases d1 : at_ + N ≤ F
      · have d1t : decide ((at_ : Int) + N ≤ F) = true := decide_eq_true (by omega)
        clear ho d1
        go_enter Tryd.func81, Tryd.ntmps81
        go_wp2
        refine wp_region_seqA (w) [(0, true), (1, true), (2, true), (3, true), (4, true), (5, false), (6, true), (7, true)] (by (try show Ex _ _); repeat (first | (with_reducible exact ex_refl _) | (with_reducible assumption) | (with_reducible refine ex_drewL ?_) | (with_reducible refine ex_appR ?_ _) | (with_reducible refine ex_wx ?_ _) | (with_reducible refine ex_drew ?_) | (with_reducible refine ex_alloc ?_ _))) (by kernel_rfl) (by kernel_rfl) (fun _ _ d _ _ h => by cases d <;> exact h) ?_
        simp only [List.map_cons, List.map_nil, nth]
        repeat (first | ((with_reducible refine wpSeq_look ?_); go_big_quiet_step (fail); (with_reducible refine wpQuiet_nil ?_)) | ((with_reducible refine wpSeq_effF ?_ ?_); (focus rfl); go_simp) | ((with_reducible refine wpSeq_eff ?_ ?_); (focus rfl); (try dsimp only); go_wp2_with (fail); refine mixQ_mk (by (try show Ex _ _); repeat (first | (with_reducible exact ex_refl _) | (with_reducible assumption) | (with_reducible refine ex_drewL ?_) | (with_reducible refine ex_appR ?_ _) | (with_reducible refine ex_wx ?_ _) | (with_reducible refine ex_drew ?_) | (with_reducible refine ex_alloc ?_ _))) ?_))
        refine wpSeq_nil ?_
        go_wp2
        exact ret_rowVV (cs := rowB 32 (dF d)) (v2 := .bool true) Tryd.results81 Tryd.underlying26 rfl info_id rfl (by simp [go_sem] <;> (repeat (first | rw [if_pos (by omega)] | rw [if_neg (by omega)]))) rfl rfl rfl ⟨d, q, _, _, rfl, fun x hx => by (cases hx; rfl), ⟨by (first | omega | (simp only [List.length_nil]; omega)), by unfold maxLen; omega, HDR.out⟩, (by (try show Ex _ _); repeat (first | (with_reducible exact ex_refl _) | (with_reducible assumption) | (with_reducible refine ex_drewL ?_) | (with_reducible refine ex_appR ?_ _) | (with_reducible refine ex_wx ?_ _) | (with_reducible refine ex_drew ?_) | (with_reducible refine ex_alloc ?_ _)))⟩
      · have d1t : decide ((at_ : Int) + N ≤ F) = false := decide_eq_false (by omega)
        have d2t : decide ((F : Int) + ps.length ≤ at_) = true := decide_eq_true (by omega)
        have d2u : decide (F + ps.length ≤ at_) = true := decide_eq_true (by omega)
        clear ho d1
        go_enter Tryd.func81, Tryd.ntmps81
        go_wp2
        refine wp_region_seqA (w) [(0, true), (1, true), (2, true), (3, true), (4, true), (5, false), (6, true), (7, true)] (by (try show Ex _ _); repeat (first | (with_reducible exact ex_refl _) | (with_reducible assumption) | (with_reducible refine ex_drewL ?_) | (with_reducible refine ex_appR ?_ _) | (with_reducible refine ex_wx ?_ _) | (with_reducible refine ex_drew ?_) | (with_reducible refine ex_alloc ?_ _))) (by kernel_rfl) (by kernel_rfl) (fun _ _ d _ _ h => by cases d <;> exact h) ?_
        simp only [List.map_cons, List.map_nil, nth]
        repeat (first | ((with_reducible refine wpSeq_look ?_); go_big_quiet_step (fail); (with_reducible refine wpQuiet_nil ?_)) | ((with_reducible refine wpSeq_effF ?_ ?_); (focus rfl); go_simp) | ((with_reducible refine wpSeq_eff ?_ ?_); (focus rfl); (try dsimp only); go_wp2_with (fail); refine mixQ_mk (by (try show Ex _ _); repeat (first | (with_reducible exact ex_refl _) | (with_reducible assumption) | (with_reducible refine ex_drewL ?_) | (with_reducible refine ex_appR ?_ _) | (with_reducible refine ex_wx ?_ _) | (with_reducible refine ex_drew ?_) | (with_reducible refine ex_alloc ?_ _))) ?_))
        refine wpSeq_nil ?_
        go_wp2
        exact ret_rowVV (cs := rowB 32 (dF d)) (v2 := .bool true) Tryd.results81 Tryd.underlying26 rfl info_id rfl (by simp [go_sem] <;> (repeat (first | rw [if_pos (by omega)] | rw [if_neg (by omega)]))) rfl rfl rfl ⟨d, q, _, _, rfl, fun x hx => by (cases hx; rfl), ⟨by (first | omega | (simp only [List.length_nil]; omega)), by unfold maxLen; omega, HDR.out⟩, (by (try show Ex _ _); repeat (first | (with_reducible exact ex_refl _) | (with_reducible assumption) | (with_reducible refine ex_drewL ?_) | (with_reducible refine ex_appR ?_ _) | (with_reducible refine ex_wx ?_ _) | (with_reducible refine ex_drew ?_) | (with_reducible refine ex_alloc ?_ _)))⟩
set_option maxHeartbeats 4000000 in
theorem dt_one {A : World} (ps : List Pr) (F : Nat) (T : Int) (pa qa0 : Option Addr) (pc L0 qc0 : Nat) (hpc : ps.length ≤ pc) (hpm : pc ≤ maxLen) (hsm : smallP ps) (hFL : F + ps.length ≤ 1000) (at_ : Nat) (q0 : List Dg) (a : Option Addr) (qc : Nat) (w : World) (hat : at_ + 1 ≤ 1000) (hqc : q0.length ≤ qc) (hqm : qc ≤ maxLen) (kA : Ex A w) (hps : SlP A pa ps) (hqs : SlD A a q0) (ho : ¬ (at_ + 1 ≤ F ∨ F + ps.length ≤ at_)) :
    Calls Tryd.prog 81 #[.agg #[I T, I F, .slice pa ps.length pc, .slice qa0 L0 qc0], I at_, I 1, .slice a q0.length qc] w (PostTp A (topR ps F at_ 1 q0) w) := by
  have d1t : decide ((at_ : Int) + 1 ≤ F) = false := decide_eq_false (by omega)
  have d2t : decide ((F : Int) + ps.length ≤ at_) = false := decide_eq_false (by omega)
  have d2u : decide (F + ps.length ≤ at_) = false := decide_eq_false (by omega)
  rw [topR_one ho (by omega)]
  have d1u : decide ((at_ : Int) + 1 ≤ F) = false := decide_eq_false (by omega)
  obtain ⟨i, hi⟩ : ∃ i, at_ - F = i := ⟨_, rfl⟩
  have hi2 : (at_ : Int) - F = i := by omega
  have hi3 : i < ps.length := by omega
  have hi4 : (i : Int) < ps.length := by omega
  obtain ⟨g, off, rfl, hg, hcp, t2, t3⟩ := (hps.ex kA).row hi3
  rw [hi]
  have hmem : prAt ps i ∈ ps := List.mem_of_getElem? (prAt_get hi3)
  have HL := Lib.hid (fun w' => refsleaf_any (prAt ps i) w' (hsm _ hmem).1 (hsm _ hmem).2)
  have S1 : Hid (sumD (leafL (prAt ps i)) = leafP (prAt ps i) ∧ (leafL (prAt ps i)).length ≤ 1000000) := Lib.hid ⟨rfl, leafL_len _⟩
  generalize leafL (prAt ps i) = lf at HL S1
  generalize leafP (prAt ps i) = z at S1 ⊢
  generalize prAt ps i = pr at hcp t2 t3 HL
  obtain ⟨s, t⟩ := pr
  unfold PC at hcp HL
  simp only at hcp t2 t3 HL
  have HQ := Lib.hid hqs
  obtain ⟨Lq, hLq⟩ : ∃ Lq, q0.length = Lq := ⟨_, rfl⟩
  have HLq := Lib.hid hLq
  rw [hLq] at hqc ⊢
  generalize ps.length = L at *
  clear hps hqs hsm hmem ho hi hLq
  go_enter Tryd.func81, Tryd.ntmps81
  go_wp2_with (first | (go_at_call 54; (with_reducible refine (HL.out _).mono ?_); rintro e w2 ⟨v1, rfl, hs1, X, rfl⟩; (try simp only [wx_wx, wx_drew] at hs1)) | (go_at_call 53; refine (refsum_slt (hs1.ex (by (try show Ex _ _); repeat (first | (with_reducible exact ex_refl _) | (with_reducible assumption) | (with_reducible refine ex_drewL ?_) | (with_reducible refine ex_appR ?_ _) | (with_reducible refine ex_wx ?_ _) | (with_reducible refine ex_drew ?_) | (with_reducible refine ex_alloc ?_ _)))).slt (by have := S1.out.2; omega)).mono ?_; rintro e w2 ⟨rfl, X, rfl⟩; (try rw [S1.out.1]); clear hs1))
  have hql := HLq.out
  subst hql
  exact ret_rowVV (cs := rowB 32 (dF z)) (v := .slice a q0.length qc) (v2 := .bool true) Tryd.results81 Tryd.underlying26 rfl info_id rfl (by simp [go_sem] <;> (repeat (first | rw [if_pos (by omega)] | rw [if_neg (by omega)]))) rfl rfl rfl ⟨z, q0, _, _, rfl, fun x hx => by (cases hx; rfl), ⟨hqc, hqm, HQ.out⟩, (by (try show Ex _ _); repeat (first | (with_reducible exact ex_refl _) | (with_reducible assumption) | (with_reducible refine ex_drewL ?_) | (with_reducible refine ex_appR ?_ _) | (with_reducible refine ex_wx ?_ _) | (with_reducible refine ex_drew ?_) | (with_reducible refine ex_alloc ?_ _)))⟩
set_option maxHeartbeats 4000000 in
theorem dt_two_n {A : World} (F L : Nat) (T : Int) (pa qa0 : Option Addr) (pc L0 qc0 N at_ k Lq qc : Nat) (a : Option Addr) (w : World) (kA : Ex A w) (hFL : F + L ≤ 1000) (hat : at_ + N ≤ 1000) (ho : ¬ (at_ + N ≤ F ∨ F + L ≤ at_)) (h2 : 2 ≤ N) (hk1 : k < N) (hk2 : 0 < k) (HS : Hid (∀ w', Calls Tryd.prog 98 #[I N] w' fun e w2 => e = .returned (I k) ∧ w' = w2)) (HLn : Hid (∀ w', Ex A w' → Calls Tryd.prog 81 #[.agg #[I T, I F, .slice pa L pc, .slice qa0 L0 qc0], I at_, I k, .slice a Lq qc] w' (PostTpN A w'))) :
    Calls Tryd.prog 81 #[.agg #[I T, I F, .slice pa L pc, .slice qa0 L0 qc0], I at_, I N, .slice a Lq qc] w (PostTp A none w) := by
  have d1t : decide ((at_ : Int) + N ≤ F) = false := decide_eq_false (by omega)
  have d2t : decide ((F : Int) + L ≤ at_) = false := decide_eq_false (by omega)
  have d2u : decide (F + L ≤ at_) = false := decide_eq_false (by omega)
  have e1 : ((N : Int) == 1) = false := beq_eq_false_iff_ne.2 (by omega)
  clear ho
  go_enter Tryd.func81, Tryd.ntmps81
  go_wp2_with (first | (go_at_call 98; refine (HS.out _).mono ?_; rintro e w' ⟨rfl, rfl⟩) | (go_at_call 81; (with_reducible refine (HLn.out _ (by (try show Ex _ _); repeat (first | (with_reducible exact ex_refl _) | (with_reducible assumption) | (with_reducible refine ex_drewL ?_) | (with_reducible refine ex_appR ?_ _) | (with_reducible refine ex_wx ?_ _) | (with_reducible refine ex_drew ?_) | (with_reducible refine ex_alloc ?_ _)))).mono ?_); rintro e w2 ⟨d1, n1, q1, a1, c1, rfl, ⟨u1, u2, u3, u4⟩, X1, rfl⟩; replace u4 := Lib.hid u4))
  exact ret_rowVV (cs := rowB 32 (dF d1)) (v := .slice none 0 0) (v2 := .bool false) Tryd.results81 Tryd.underlying26 rfl info_id rfl (by simp [go_sem] <;> (repeat (first | rw [if_pos (by omega)] | rw [if_neg (by omega)]))) rfl rfl rfl ⟨d1, [], none, 0, rfl, fun x hx => by (cases hx), ⟨by simp, by decide, SlD.nil _ _⟩, (by (try show Ex _ _); repeat (first | (with_reducible exact ex_refl _) | (with_reducible assumption) | (with_reducible refine ex_drewL ?_) | (with_reducible refine ex_appR ?_ _) | (with_reducible refine ex_wx ?_ _) | (with_reducible refine ex_drew ?_) | (with_reducible refine ex_alloc ?_ _)))⟩
set_option maxHeartbeats 4000000 in
theorem dt_two_sn {A : World} (F L : Nat) (T : Int) (pa qa0 : Option Addr) (pc L0 qc0 N at_ k Lq qc : Nat) (a : Option Addr) (w : World) (kA : Ex A w) (hFL : F + L ≤ 1000) (hat : at_ + N ≤ 1000) (ho : ¬ (at_ + N ≤ F ∨ F + L ≤ at_)) (h2 : 2 ≤ N) (hk1 : k < N) (hk2 : 0 < k) (HS : Hid (∀ w', Calls Tryd.prog 98 #[I N] w' fun e w2 => e = .returned (I k) ∧ w' = w2)) (d0 : Dg) (q0 : List Dg) (n0 : Nat) (HLs : Hid (∀ w', Ex A w' → Calls Tryd.prog 81 #[.agg #[I T, I F, .slice pa L pc, .slice qa0 L0 qc0], I at_, I k, .slice a Lq qc] w' (PostTpS A d0 q0 n0 w'))) (HRn : Hid (∀ a1 c1 w', Ex A w' → n0 ≤ c1 → c1 ≤ maxLen → SlD A a1 q0 → Calls Tryd.prog 81 #[.agg #[I T, I F, .slice pa L pc, .slice qa0 L0 qc0], I ((at_ : Int) + k), I ((N : Int) - k), .slice a1 n0 c1] w' (PostTpN A w'))) :
    Calls Tryd.prog 81 #[.agg #[I T, I F, .slice pa L pc, .slice qa0 L0 qc0], I at_, I N, .slice a Lq qc] w (PostTp A none w) := by
  have d1t : decide ((at_ : Int) + N ≤ F) = false := decide_eq_false (by omega)
  have d2t : decide ((F : Int) + L ≤ at_) = false := decide_eq_false (by omega)
  have d2u : decide (F + L ≤ at_) = false := decide_eq_false (by omega)
  have e1 : ((N : Int) == 1) = false := beq_eq_false_iff_ne.2 (by omega)
  clear ho
  have S2 := Lib.hid (fun x => show sumD (1 :: (bytesD d0 ++ bytesD x)) = nodeD d0 x ∧ (1 :: (bytesD d0 ++ bytesD x)).length ≤ 1000000 from ⟨rfl, by simp [bytesD_len]⟩)
  have HRJ := Lib.hid (fun a b w' => refjoin_any a b w')
  go_enter Tryd.func81, Tryd.ntmps81
  go_wp2_with (first | (go_at_call 98; refine (HS.out _).mono ?_; rintro e w' ⟨rfl, rfl⟩) | (go_at_call 81; (with_reducible refine (HLs.out _ (by (try show Ex _ _); repeat (first | (with_reducible exact ex_refl _) | (with_reducible assumption) | (with_reducible refine ex_drewL ?_) | (with_reducible refine ex_appR ?_ _) | (with_reducible refine ex_wx ?_ _) | (with_reducible refine ex_drew ?_) | (with_reducible refine ex_alloc ?_ _)))).mono ?_); rintro e w2 ⟨a1, c1, rfl, ⟨u1, u2, u3⟩, X1, rfl⟩; replace u3 := Lib.hid u3) | (go_at_call 81; (with_reducible refine (HRn.out _ _ _ (by (try show Ex _ _); repeat (first | (with_reducible exact ex_refl _) | (with_reducible assumption) | (with_reducible refine ex_drewL ?_) | (with_reducible refine ex_appR ?_ _) | (with_reducible refine ex_wx ?_ _) | (with_reducible refine ex_drew ?_) | (with_reducible refine ex_alloc ?_ _))) u1 u2 u3.out).mono ?_); rintro e w3 ⟨d2, n2, q2, a2, c2, rfl, ⟨y0, y1, y2, y3⟩, X2, rfl⟩; replace y3 := Lib.hid y3) | (go_at_call 56; (with_reducible refine (HRJ.out _ _ _).mono ?_); rintro e w4 ⟨v4, rfl, hs4, X4, rfl⟩; (try simp only [wx_wx, wx_drew] at hs4); replace hs4 := Lib.hid hs4) | (go_at_call 53; refine (refsum_slt (hs4.out.ex (by (try show Ex _ _); repeat (first | (with_reducible exact ex_refl _) | (with_reducible assumption) | (with_reducible refine ex_drewL ?_) | (with_reducible refine ex_appR ?_ _) | (with_reducible refine ex_wx ?_ _) | (with_reducible refine ex_drew ?_) | (with_reducible refine ex_alloc ?_ _)))).slt (by have := (S2.out d2).2; omega)).mono ?_; rintro e w5 ⟨rfl, X5, rfl⟩; (try rw [(S2.out d2).1]); clear hs4))
  subst y0
  exact ret_rowVV (cs := rowB 32 (dF (nodeD d0 d2))) (v := .slice a2 q2.length c2) (v2 := .bool false) Tryd.results81 Tryd.underlying26 rfl info_id rfl (by simp [go_sem] <;> (repeat (first | rw [if_pos (by omega)] | rw [if_neg (by omega)]))) rfl rfl rfl ⟨nodeD d0 d2, q2, a2, c2, rfl, fun x hx => by (cases hx), ⟨y1, y2, y3.out⟩, (by (try show Ex _ _); repeat (first | (with_reducible exact ex_refl _) | (with_reducible assumption) | (with_reducible refine ex_drewL ?_) | (with_reducible refine ex_appR ?_ _) | (with_reducible refine ex_wx ?_ _) | (with_reducible refine ex_drew ?_) | (with_reducible refine ex_alloc ?_ _)))⟩
set_option maxHeartbeats 16000000 in
theorem dt_two_ss {A : World} (F L : Nat) (T : Int) (pa qa0 : Option Addr) (pc L0 qc0 N at_ k Lq qc : Nat) (a : Option Addr) (w : World) (kA : Ex A w) (hFL : F + L ≤ 1000) (hat : at_ + N ≤ 1000) (ho : ¬ (at_ + N ≤ F ∨ F + L ≤ at_)) (h2 : 2 ≤ N) (hk1 : k < N) (hk2 : 0 < k) (HS : Hid (∀ w', Calls Tryd.prog 98 #[I N] w' fun e w2 => e = .returned (I k) ∧ w' = w2)) (d0 : Dg) (q0 : List Dg) (n0 : Nat) (HLs : Hid (∀ w', Ex A w' → Calls Tryd.prog 81 #[.agg #[I T, I F, .slice pa L pc, .slice qa0 L0 qc0], I at_, I k, .slice a Lq qc] w' (PostTpS A d0 q0 n0 w'))) (d2 : Dg) (q2 : List Dg) (n2 : Nat) (hn2 : Hid (q2.length = n2)) (HRs : Hid (∀ a1 c1 w', Ex A w' → n0 ≤ c1 → c1 ≤ maxLen → SlD A a1 q0 → Calls Tryd.prog 81 #[.agg #[I T, I F, .slice pa L pc, .slice qa0 L0 qc0], I ((at_ : Int) + k), I ((N : Int) - k), .slice a1 n0 c1] w' (PostTpS A d2 q2 n2 w'))) :
    Calls Tryd.prog 81 #[.agg #[I T, I F, .slice pa L pc, .slice qa0 L0 qc0], I at_, I N, .slice a Lq qc] w (PostTp A (some (nodeD d0 d2, q2)) w) := by
  have d1t : decide ((at_ : Int) + N ≤ F) = false := decide_eq_false (by omega)
  have d2t : decide ((F : Int) + L ≤ at_) = false := decide_eq_false (by omega)
  have d2u : decide (F + L ≤ at_) = false := decide_eq_false (by omega)
  have e1 : ((N : Int) == 1) = false := beq_eq_false_iff_ne.2 (by omega)
  clear ho
  have S2 := Lib.hid (fun x => show sumD (1 :: (bytesD d0 ++ bytesD x)) = nodeD d0 x ∧ (1 :: (bytesD d0 ++ bytesD x)).length ≤ 1000000 from ⟨rfl, by simp [bytesD_len]⟩)
  have HRJ := Lib.hid (fun a b w' => refjoin_any a b w')
  go_enter Tryd.func81, Tryd.ntmps81
  go_wp2_with (first | (go_at_call 98; refine (HS.out _).mono ?_; rintro e w' ⟨rfl, rfl⟩) | (go_at_call 81; (with_reducible refine (HLs.out _ (by (try show Ex _ _); repeat (first | (with_reducible exact ex_refl _) | (with_reducible assumption) | (with_reducible refine ex_drewL ?_) | (with_reducible refine ex_appR ?_ _) | (with_reducible refine ex_wx ?_ _) | (with_reducible refine ex_drew ?_) | (with_reducible refine ex_alloc ?_ _)))).mono ?_); rintro e w2 ⟨a1, c1, rfl, ⟨u1, u2, u3⟩, X1, rfl⟩; replace u3 := Lib.hid u3) | (go_at_call 81; (with_reducible refine (HRs.out _ _ _ (by (try show Ex _ _); repeat (first | (with_reducible exact ex_refl _) | (with_reducible assumption) | (with_reducible refine ex_drewL ?_) | (with_reducible refine ex_appR ?_ _) | (with_reducible refine ex_wx ?_ _) | (with_reducible refine ex_drew ?_) | (with_reducible refine ex_alloc ?_ _))) u1 u2 u3.out).mono ?_); rintro e w3 ⟨a2, c2, rfl, ⟨y1, y2, y3⟩, X2, rfl⟩; replace y3 := Lib.hid y3) | (go_at_call 56; (with_reducible refine (HRJ.out _ _ _).mono ?_); rintro e w4 ⟨v4, rfl, hs4, X4, rfl⟩; (try simp only [wx_wx, wx_drew] at hs4); replace hs4 := Lib.hid hs4) | (go_at_call 53; refine (refsum_slt (hs4.out.ex (by (try show Ex _ _); repeat (first | (with_reducible exact ex_refl _) | (with_reducible assumption) | (with_reducible refine ex_drewL ?_) | (with_reducible refine ex_appR ?_ _) | (with_reducible refine ex_wx ?_ _) | (with_reducible refine ex_drew ?_) | (with_reducible refine ex_alloc ?_ _)))).slt (by have := (S2.out d2).2; omega)).mono ?_; rintro e w5 ⟨rfl, X5, rfl⟩; (try rw [(S2.out d2).1]); clear hs4))
  exact ret_rowVV (cs := rowB 32 (dF (nodeD d0 d2))) (v := .slice a2 n2 c2) (v2 := .bool true) Tryd.results81 Tryd.underlying26 rfl info_id rfl (by simp [go_sem] <;> (repeat (first | rw [if_pos (by omega)] | rw [if_neg (by omega)]))) rfl rfl rfl (postTp_mkS hn2.out y1 y2 y3.out (by (try show Ex _ _); repeat (first | (with_reducible exact ex_refl _) | (with_reducible assumption) | (with_reducible refine ex_drewL ?_) | (with_reducible refine ex_appR ?_ _) | (with_reducible refine ex_wx ?_ _) | (with_reducible refine ex_drew ?_) | (with_reducible refine ex_alloc ?_ _))))
theorem doctop_any {A : World} (ps : List Pr) (F : Nat) (T : Int) (pa qa0 : Option Addr) (pc L0 qc0 : Nat) (hpc : ps.length ≤ pc) (hpm : pc ≤ maxLen) (hsm : smallP ps) (hFL : F + ps.length ≤ 1000) (N : Nat) : ∀ (at_ : Nat) (q0 : List Dg) (a : Option Addr) (qc : Nat) (w : World), 1 ≤ N → at_ + N ≤ 1000 → q0.length ≤ qc → qc ≤ maxLen → Ex A w → SlP A pa ps → SlD A a q0 →
    Calls Tryd.prog 81 #[.agg #[I T, I F, .slice pa ps.length pc, .slice qa0 L0 qc0], I at_, I N, .slice a q0.length qc] w (PostTp A (topR ps F at_ N q0) w) := by
  induction N using Nat.strongRecOn with
  | ind N ih =>
    intro at_ q0 a qc w h1 hat hqc hqm kA hps hqs
    by_cases ho : at_ + N ≤ F ∨ F + ps.length ≤ at_
    · exact dt_out ps F T pa qa0 pc L0 qc0 hpc hpm hsm hFL N at_ q0 a qc w h1 hat hqc hqm kA hps hqs ho
    · by_cases hn : N = 1
      · subst hn
        exact dt_one ps F T pa qa0 pc L0 qc0 hpc hpm hsm hFL at_ q0 a qc w hat hqc hqm kA hps hqs ho
      · have h2 : 2 ≤ N := by omega
        have hk1 := split_lt (n := N) h2
        have hk2 := split_pos N
        have HL : ∀ w', Ex A w' → Calls Tryd.prog 81 #[.agg #[I T, I F, .slice pa ps.length pc, .slice qa0 L0 qc0], I at_, I (splitN N), .slice a q0.length qc] w' (PostTp A (topR ps F at_ (splitN N) q0) w') :=
          fun w' k => ih _ hk1 at_ q0 a qc w' hk2 (by omega) hqc hqm k hps hqs
        have HR : ∀ q1 a1 c1 w', Ex A w' → q1.length ≤ c1 → c1 ≤ maxLen → SlD A a1 q1 → Calls Tryd.prog 81 #[.agg #[I T, I F, .slice pa ps.length pc, .slice qa0 L0 qc0], I ((at_ : Int) + splitN N), I ((N : Int) - splitN N), .slice a1 q1.length c1] w' (PostTp A (topR ps F (at_ + splitN N) (N - splitN N) q1) w') :=
          fun q1 a1 c1 w' k g1 g2 g3 => by
            have := ih (N - splitN N) (by omega) (at_ + splitN N) q1 a1 c1 w' (by omega) (by omega) g1 g2 k hps g3
            rwa [show ((at_ + splitN N : Nat) : Int) = (at_ : Int) + splitN N by omega, show ((N - splitN N : Nat) : Int) = (N : Int) - splitN N by omega] at this
        have HS := Lib.hid (fun w => refhalf_any N w h2 (by omega))
        cases hx : topR ps F at_ (splitN N) q0 with
        | none =>
          rw [topR_none ho h2 hx]
          rw [hx] at HL
          exact dt_two_n F _ T pa qa0 pc L0 qc0 N at_ _ _ qc a w kA hFL hat ho h2 hk1 hk2 HS (Lib.hid fun w' k => (HL w' k).mono fun e w2 => postTp_none)
        | some x =>
          obtain ⟨d0, q00⟩ := x
          rw [topR_two ho h2 hx]
          rw [hx] at HL
          have HRx := HR q00
          cases ho2 : topR ps F (at_ + splitN N) (N - splitN N) q00 with
          | none =>
            rw [ho2] at HRx
            exact dt_two_sn F _ T pa qa0 pc L0 qc0 N at_ _ _ qc a w kA hFL hat ho h2 hk1 hk2 HS d0 q00 _ (Lib.hid fun w' k => (HL w' k).mono fun e w2 => postTp_some rfl) (Lib.hid fun a1 c1 w' k g1 g2 g3 => (HRx a1 c1 w' k g1 g2 g3).mono fun e w2 => postTp_none)
          | some y =>
            obtain ⟨d2, q2⟩ := y
            rw [ho2] at HRx
            exact dt_two_ss F _ T pa qa0 pc L0 qc0 N at_ _ _ qc a w kA hFL hat ho h2 hk1 hk2 HS d0 q00 _ (Lib.hid fun w' k => (HL w' k).mono fun e w2 => postTp_some rfl) d2 q2 _ (Lib.hid rfl) (Lib.hid fun a1 c1 w' k g1 g2 g3 => (HRx a1 c1 w' k g1 g2 g3).mono fun e w2 => postTp_some rfl)
end Go.Proofs.YtbobamifpjlmiaaDoor
