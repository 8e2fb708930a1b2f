import Derived.Test.YtcdocklbpfdmeaaDoorMSpF
import Derived.Laws.Tables

/- Collide: spans$1. -/
set_option linter.unusedSimpArgs false
set_option linter.unusedVariables false
set_option linter.unnecessarySimpa false
set_option maxRecDepth 20000
namespace Go.Proofs.YtcdocklbpfdmeaaDoor
open Go.RowKit
def build2gRun (P : Program) (t : TypeId) (v u : Value) (w : World) : Result Next := ((Instr.build t #[(0, v), (1, u)]).run P w).andThen fun x w' => .ok (.value x) w'
@[go_sem ↓ high + 10] theorem run_build2g_pre {P : Program} (ρ : Operand → Value) (d : Option Tmp) (t : TypeId) (x y : Operand) (ty : TypeId) (pos : String) (aft : Array Edge) (g : Option (Nat × Bool)) (w : World) :
    Sem.run P (execOp ρ ⟨d, .build t #[(0, x), (1, y)], ty, pos, aft, g⟩) w = build2gRun P t (ρ x) (ρ y) w := by
  simp only [execOp, Sem.run_bind, Sem.run_pure, build2gRun, List.map_toArray, List.map_cons, List.map_nil]
@[go_sem low] theorem build2gRun_other {P : Program} (t : TypeId) (v u : Value) (w : World) : build2gRun P t v u w = ((Instr.build t #[(0, v), (1, u)]).run P w).andThen fun x w' => .ok (.value x) w' := rfl
theorem built_spanner (a : Option Addr) (T F : Int) (pa qa : Option Addr) (pn pc qn qc : Nat) : Tryd.prog.built 143 [(0, .pointer a), (1, .agg #[I T, I F, .slice pa pn pc, .slice qa qn qc])] = some #[.pointer a, I T, I F, .slice pa pn pc, .slice qa qn qc] := by kernel_rfl
@[go_sem] theorem build2g_spanner (a : Option Addr) (T F : Int) (pa qa : Option Addr) (pn pc qn qc : Nat) (w : World) : build2gRun Tryd.prog 143 (.pointer a) (.agg #[I T, I F, .slice pa pn pc, .slice qa qn qc]) w = .ok (.value (.agg #[.pointer a, I T, I F, .slice pa pn pc, .slice qa qn qc])) w := by
  unfold build2gRun
  rw [run_build w _ _ _ (built_spanner a T F pa qa pn pc qn qc)]; rfl
theorem frG32_try {P : Nat → Prop} {r : Nat} {A w5 : World} {cs : Array Value} {G : Prop} (k : Frm P A w5) (h : cellsN w5 r 0 32 = some cs ∧ frozenN w5 r 0 32 = false ∧ r < w5.heap.size ∧ IdB w5 r → G) (hi : IdB A r) (hn : ¬ P r) (hc : cellsN A r 0 32 = some cs) (hf : frozenN A r 0 32 = false) : G := h (frG32 k hi hn hc hf)
def PostKS (p W : Nat) (w : World) (is : List UInt8) (T : Nat) (o : Option (Dg × List Dg × Cl)) (e : Ending) (w' : World) : Prop := match o with
  | some x => PostK p W w (.bool (outS (sumW W) is T (some x)).1) (outS (sumW W) is T (some x)).2 e w'
  | none => e = offE ∧ FrP p w w' ∧ ∃ c, Wk w' p W c
theorem FrQ.narrow {p q : Nat} {w w1 w2 : World} (kw : Ex w w1) (h : FrQ p q w1 w2) (hq : w.heap.size ≤ q) : FrP p w w2 := by
  have f := (Frm.ex kw : FrQ p q w w1).trans h
  exact ⟨f.os, f.tape, f.output, f.size, fun b hb hn => f.same b hb (by rintro (e | e); exact hn e; omega)⟩
set_option maxHeartbeats 2000000 in
theorem spans1_any {w0 A : World} (G : Glob w0) (k0 : Ex w0 A) (W : Nat) (hW : W ≤ 256) {p : Nat} (hAp : A.heap.size ≤ p) (l : List Pr) (la : Option Addr) (lc : Nat) (T F : Nat) (ps : List Pr) (pa : Option Addr) (pc : Nat) (qs : List Dg) (qa : Option Addr) (qc : Nat) (w : World) (sb lb : Nat)
    (hr : rightP l = true) (hlc : l.length ≤ lc) (hlm : lc ≤ maxLen) (hls : SlP A la l) (hok : okS T F ps) (hpc : ps.length ≤ pc) (hpm : pc ≤ maxLen) (hPs : SlP A pa ps) (hqc : qs.length ≤ qc) (hqm : qc ≤ maxLen) (hQs : SlD A qa qs) (kA : Ex A w) (hk : Wk w p W none)
    (hsb : A.heap[sb]? = some (.cells #[I T, I F, .slice pa ps.length pc, .slice qa qs.length qc] 27 (0, 0))) (hlb : A.heap[lb]? = some (.cells #[.slice la l.length lc] 22 (0, 0))) :
    Calls Tryd.prog 98 #[.pointer (some ⟨p, 0, none⟩), .pointer (some ⟨sb, 0, none⟩), .pointer (some ⟨lb, 0, none⟩)] w (PostKS p W w (isL (sumW W) l) T (spanTop (sumW W) l T F ps qs)) := by
  obtain ⟨k1, k2, k3, k4, k5, k6⟩ := hok
  have hll := right_len2 hr
  have hlf := right_fit hr
  have hfit := right_fit k6
  have hsw := ex_block kA hsb
  have s4 := (block_cellsF (n := 4) hsw rfl).1
  have s0 := (block_cellF (o := 0) hsw rfl).1
  have zs := cell_lt s0
  have l0 := cell_of_row w lb 0 _ _ _ (ex_block kA hlb)
  have zl := (Array.getElem?_eq_some_iff.1 (ex_block kA hlb)).1
  have hpw := hk.lt
  have HK := Lib.hid hk
  have hT1 : T ≤ 1000000 := by omega
  have his : Hid ((isL (sumW W) l).length ≤ 1000) := Lib.hid (crownL_len _ _)
  have HTp := Lib.hid fun w' (k : Ex A w') => wtopP_any G W hW l la lc w' (by omega) hlc hlm (hls.ex k) hlf (ex_trans k0 k)
  have HCr : Hid (∀ w', Calls Tryd.prog 77 #[I l.length, .agg (rowB 32 (dF (topC (sumW W) zeroD leafL l)))] w' (PostU w' (isL (sumW W) l))) := Lib.hid fun w' => crownB_any l.length (by omega) (topC (sumW W) zeroD leafL l) w'
  generalize isL (sumW W) l = is at his HCr ⊢
  generalize topC (sumW W) zeroD leafL l = tp at HTp HCr
  have hps2 : ps.length ≤ 300 := by omega
  have hF3 : F ≤ 300 := by omega
  have hwA : Hid (∀ w' : World, Ex w w' → w.heap.size ≤ w'.heap.size) := Lib.hid fun w' k => ex_size k
  have hSp0 : Hid (∀ w', Ex (w.alloc (.cells #[.pointer (some ⟨p, 0, none⟩), I T, I F, .slice pa ps.length pc, .slice qa qs.length qc] 143)) w' → Sp A w' w.heap.size p T F (.slice pa ps.length pc) qs) := Lib.hid fun w' k => ⟨qa, qc, ex_block k (heap_alloc_new _ _), hqc, hqm, hQs⟩
  have hAw := ex_size kA
  have hSl : Hid (∀ w' q, A.heap.size ≤ q → Ex A w' → Wk w' p W none → Sp A w' q p T F (.slice pa ps.length pc) qs → 0 < T → T = l.length → Calls Tryd.prog 99 #[.pointer (some ⟨q, 0, none⟩), I 0, I T, .slice la l.length lc] w' (PostTs A p q W T F (.slice pa ps.length pc) w' (spanTop (sumW W) l T F ps qs))) := Lib.hid fun w' q hq k hk hs h0 hT => by
    have := wspan_any G k0 hW hPs hfit hF3 hps2 hpc hpm hAp hq T 0 qs l la lc none w' (by omega) (by omega) (Or.inl hT.symm) hlc hlm hls hlf k hk hs
    unfold spanTop
    rw [if_neg (by omega), if_pos (by omega), Int.toNat_natCast, Int.toNat_natCast]
    exact this
  have hSn : Hid (∀ w' q, A.heap.size ≤ q → Ex A w' → Wk w' p W none → Sp A w' q p T F (.slice pa ps.length pc) qs → 0 < T → T ≠ l.length → Calls Tryd.prog 99 #[.pointer (some ⟨q, 0, none⟩), I 0, I T, .slice none 0 0] w' (PostTs A p q W T F (.slice pa ps.length pc) w' (spanTop (sumW W) l T F ps qs))) := Lib.hid fun w' q hq k hk hs h0 hT => by
    have := wspan_any G k0 hW hPs hfit hF3 hps2 hpc hpm hAp hq T 0 qs [] none 0 none w' (by omega) (by omega) (Or.inr rfl) (by simp) (by decide) (SlP.nil _ _) (fun p hp => by cases hp) k hk hs
    unfold spanTop
    rw [if_neg (by omega), if_neg (by omega), Int.toNat_natCast, Int.toNat_natCast]
    exact this
  have hq0 : A.heap.size ≤ w.heap.size := hAw
  have hTz : Hid (T = 0 → spanTop (sumW W) l T F ps qs = some (zeroD, qs, none)) := Lib.hid fun h => by unfold spanTop; rw [if_pos (by omega)]
  have bL1 : ((T : Int) == l.length) = (T == l.length) := by rw [Bool.eq_iff_iff]; simp; omega
  have HbL := Lib.hid (show ((T == l.length) = true → T = l.length) ∧ ((T == l.length) = false → T ≠ l.length) from ⟨fun h => by simpa using h, fun h => by simpa using h⟩)
  generalize spanTop (sumW W) l T F ps qs = o at hSl hSn hTz ⊢
  generalize hb : (T == l.length) = bb at bL1 HbL
  generalize ps.length = pn at *
  generalize qs.length = qn at *
  unfold maxLen at hlm hpm hqm
  clear hsb hsw hk hls hPs hQs k1 k2 k3 k4 k5
  by_cases hT0 : T = 0
  · have eo := hTz.out hT0
    rw [eo]
    have tT : decide ((0 : Int) < T) = false := decide_eq_false (by omega)
    have tT2 : decide (0 < T) = false := decide_eq_false (by omega)
    have hT0' := Lib.hid hT0
    clear hT0 hSl hSn hTz eo
    obtain ⟨t, htz'⟩ : ∃ t, zeroD = t := ⟨_, rfl⟩
    rw [htz']
    have htz := Lib.hid htz'
    clear htz'
    obtain ⟨c1, hc1⟩ : ∃ c1 : Cl, none = c1 := ⟨_, rfl⟩
    rw [hc1] at HK ⊢
    clear hc1
    obtain ⟨q', hqs⟩ : ∃ q', qs = q' := ⟨_, rfl⟩
    rw [hqs] at hSp0 ⊢
    clear hqs
    by_cases hq : q' = []
    ·
      unfold PostKS outS
      simp only [if_pos hq]
      have HCt2 := Lib.hid fun w' => crownB_any T hT1 t w'
      have HPt0 : Hid (∀ w' v u, Ex A w' → Wk w' p W c1 → OwnU w' v (crownL T t) → OwnU w' u is → Calls Tryd.prog 100 #[.pointer (some ⟨p, 0, none⟩), v, u] w' (PostK p W w' (.agg (rowB 32 (dF (sumW W (crownL T t))))) (putC (sumW W) (crownL T t) is c1).2)) :=
        Lib.hid fun w' v u k h0 h1 h2 => put_any G W hW (ex_trans k0 k) h0 h1 h2 (by have := crownL_len T t; omega) (by have := his.out; omega)
      have HSm := Lib.hid fun w' v (k : Ex A w') (h : OwnU w' v is) => wsum_any G W hW (ex_trans k0 k) h.slt (by have := his.out; omega)
      have he := eqD (sumW W (crownL T t)) (sumW W is)
      generalize decide (sumW W (crownL T t) = sumW W is) = be at he ⊢
      generalize sumW W (crownL T t) = xa at he HPt0
      generalize sumW W is = xb at he HSm
      generalize crownL T t = cl at HCt2 HPt0 ⊢
      generalize (putC (sumW W) cl is c1).2 = c5 at HPt0 ⊢
      cases bb
      all_goals
        go_enter Tryd.func98, Tryd.ntmps98
        go_wp2
        refine wp_region_seqA (w.alloc (.cells #[.pointer (some ⟨p, 0, none⟩), I T, I F, .slice pa pn pc, .slice qa qn qc] 143)) [(0, true), (1, true), (2, true), (3, true), (4, true), (5, true), (6, true), (7, true)] (by (try show Ex _ _); with_reducible repeat (first | exact ex_refl _ | assumption | refine ex_drewL ?_ | refine ex_appR ?_ _ | refine ex_wx ?_ _ | refine ex_drew ?_ | refine ex_alloc ?_ _)) (by kernel_rfl) (by kernel_rfl) (fun _ _ d _ _ h => by cases d <;> exact h) ?_
        simp only [List.map_cons, List.map_nil, nth]
        repeat (first | ((with_reducible refine wpSeq_look ?_); go_big_quiet_step (fail); (with_reducible refine wpQuiet_nil ?_)) | ((with_reducible refine wpSeq_effF ?_ ?_); (focus rfl); go_simp) | ((with_reducible refine wpSeq_eff ?_ ?_); (focus rfl); (try dsimp only); go_wp2_with (fail); refine mixQ_mk (by (try show Ex _ _); with_reducible repeat (first | exact ex_refl _ | assumption | refine ex_drewL ?_ | refine ex_appR ?_ _ | refine ex_wx ?_ _ | refine ex_drew ?_ | refine ex_alloc ?_ _)) ?_))
        refine wpSeq_nil ?_
        go_wp2
        refine wp_worldC fun W6 hW6 => ?_
        have kw6 : Ex (w.alloc (.cells #[.pointer (some ⟨p, 0, none⟩), I T, I F, .slice pa pn pc, .slice qa qn qc] 143)) W6 := by rw [← hW6]; exact (by (try show Ex _ _); with_reducible repeat (first | exact ex_refl _ | assumption | refine ex_drewL ?_ | refine ex_appR ?_ _ | refine ex_wx ?_ _ | refine ex_drew ?_ | refine ex_alloc ?_ _))
        have S6 := hSp0.out W6 kw6
        have kww : Ex w W6 := ex_trans (ex_alloc (ex_refl _) _) kw6
        have kA6 : Ex A W6 := ex_trans kA kww
        have K6 := HK.out.ex kww
        have F6w : FrP p w W6 := Frm.ex kww
        have n7 : cellsN W6 (w.heap.size + 1) 0 32 = some (rowB 32 (dF t)) := by rw [← hW6, ← htz.out, row_zeroC]; simp [go_sem]
        have z7 : w.heap.size + 1 < W6.heap.size := by rw [← hW6]; simp [go_sem]
        have h7p : w.heap.size + 1 ≠ p := by omega
        clear hW6
        obtain ⟨r7, hr7⟩ : ∃ r, w.heap.size + 1 = r := ⟨_, rfl⟩
        rw [hr7] at n7 z7 h7p ⊢
        obtain ⟨q, hqq⟩ : ∃ r, w.heap.size = r := ⟨_, rfl⟩
        rw [hqq] at S6 ⊢
        clear hqq hr7
        have hv0 := K6.width
        have hp6 := K6.lt
        obtain ⟨e0, e1, e2, e3, ⟨qa6, qc6, e4⟩, e5⟩ := S6.cells
        have l6 := cell_of_row W6 lb 0 _ _ _ (ex_block kA6 hlb)
        have zl6 := (Array.getElem?_eq_some_iff.1 (ex_block kA6 hlb)).1
        refine wp_region_seq [(0, true), (1, true), (2, true), (3, true), (4, true), (5, true), (6, true), (7, false), (8, false), (9, true)] (by kernel_rfl) (by kernel_rfl) (fun _ _ d _ _ h => by cases d <;> exact h) ?_
        simp only [List.map_cons, List.map_nil, nth]
        repeat (first | ((with_reducible refine wpSeq_look ?_); go_big_quiet_step (fail); (with_reducible refine wpQuiet_nil ?_)) | ((with_reducible refine wpSeq_effF ?_ ?_); (focus rfl); go_simp) | ((with_reducible refine wpSeq_eff ?_ ?_); (focus rfl); (try dsimp only); go_wp2_with (first | (go_at_call 78; (with_reducible refine (HTp.out _ (ex_trans kA6 (by (try show Ex _ _); with_reducible repeat (first | exact ex_refl _ | assumption | refine ex_drewL ?_ | refine ex_appR ?_ _ | refine ex_wx ?_ _ | refine ex_drew ?_ | refine ex_alloc ?_ _)))).mono ?_); rintro e w3 ⟨rfl, X8, rfl⟩) | (go_at_call 77; (with_reducible refine (HCr.out _).mono ?_); rintro e w3 ⟨v8, rfl, hv8, X9, rfl⟩; (try simp only [wx_wx, wx_drew] at hv8))); refine mixQ_mk (by (try show Ex _ _); with_reducible repeat (first | exact ex_refl _ | assumption | refine ex_drewL ?_ | refine ex_appR ?_ _ | refine ex_wx ?_ _ | refine ex_drew ?_ | refine ex_alloc ?_ _)) ?_))
        refine wpSeq_nil ?_
        go_wp2
        refine wp_worldC fun W8 hW8 => ?_
        have k8 : Ex W6 W8 := by rw [← hW8]; exact (by (try show Ex _ _); with_reducible repeat (first | exact ex_refl _ | assumption | refine ex_drewL ?_ | refine ex_appR ?_ _ | refine ex_wx ?_ _ | refine ex_drew ?_ | refine ex_alloc ?_ _))
        replace hv8 : OwnU W8 v8 is := by rw [← hW8]; exact OwnU.ex hv8 (by (try show Ex _ _); with_reducible repeat (first | exact ex_refl _ | assumption | refine ex_drewL ?_ | refine ex_appR ?_ _ | refine ex_wx ?_ _ | refine ex_drew ?_ | refine ex_alloc ?_ _))
        clear hW8
        have K8 := K6.ex k8
        have S8 := S6.ex k8
        have kA8 : Ex A W8 := ex_trans kA6 k8
        have F8 : FrP p w W8 := F6w.trans (Frm.ex k8)
        have n78 := cellsN_exF n7 z7 k8
        have z78 : r7 < W8.heap.size := Nat.lt_of_lt_of_le z7 (ex_size k8)
        have zp8 := K8.lt
        have w8 := K8.width
        have hnz := S8.ne K8
        obtain ⟨u0, u1, u2, u3, ⟨qa8, qc8, u4⟩, u5⟩ := S8.cells
        clear e0 e1 e2 e3 e4 e5 l6 zl6 hv0 hp6 n7 z7
        rw [hq, List.length_nil] at u4
        have hv8' := Lib.hid fun w5 (F : FrP p W8 w5) => hv8.frm K8.nou F
        have HPt : Hid (∀ w' v u, Ex W8 w' → OwnU w' v cl → OwnU w' u is → Calls Tryd.prog 100 #[.pointer (some ⟨p, 0, none⟩), v, u] w' (PostK p W w' (.agg (rowB 32 (dF xa))) c5)) :=
          Lib.hid fun w' v u k h1 h2 => HPt0.out w' v u (ex_trans kA8 k) (K8.ex k) h1 h2
        obtain ⟨P, hP⟩ : ∃ P : Nat → Prop, P = fun k => k = p := ⟨_, rfl⟩
        have nP1 : ¬ P q := by rw [hP]; exact hnz
        have hPp : P p := by rw [hP]
        have nP3 : ¬ P r7 := by rw [hP]; exact h7p
        have SQ : Hid (∀ w5, FrP p W8 w5 → Frm P W8 w5) := Lib.hid fun w5 F => F.mono fun b e => by rw [hP]; exact e
        clear hP
        refine wp_region_forkH (fun w' => ∃ X, w' = kq2 W8 p P X) (.look 0 (.look 1 (.look 2 (.look 3 (.look 4 (.look 5 (.look 6 (.look 7 (.look 8 (.look 9 (.look 10 (.look 11 (.look 12 (.look 13 (.look 14 (.look 16 (.look 18 (.look 19 (.look 20 (.look 21 (.look 22 (.eff 15 (.eff 17 (.eff 23 (.look 24 (.look 25 (.look 26 .done))))))))))))))))))))))))))) (⟨_, kq2_of (fun _ _ _ => rfl) rfl⟩) (by kernel_rfl) (by kernel_rfl) (fun _ _ d _ _ h => by cases d <;> exact h) ?_
        simp only [Fk.ops, nth]
        repeat (first | ((with_reducible refine wpForkH_look ?_); go_big_quiet_step (fail); (try (with_reducible refine wpQuiet_nil ?_))) | (with_reducible refine wpForkH_eff ?_) | ((with_reducible refine effH_F ?_ ?_); (focus rfl); go_simp) | ((with_reducible refine effH_T ?_ ?_); (focus rfl); (try dsimp only); go_wp2_with (first | (go_at_call 77; (with_reducible refine (HCt2.out _).mono ?_); rintro e w3 ⟨v9, rfl, hv9, X4, rfl⟩; (try simp only [wx_wx, wx_drew] at hv9)) | (go_at_call 100; (with_reducible refine (HPt.out _ _ _ (by (try show Ex _ _); with_reducible repeat (first | exact ex_refl _ | assumption | refine ex_drewL ?_ | refine ex_appR ?_ _ | refine ex_wx ?_ _ | refine ex_drew ?_ | refine ex_alloc ?_ _)) (OwnU.ex hv9 (by (try show Ex _ _); with_reducible repeat (first | exact ex_refl _ | assumption | refine ex_drewL ?_ | refine ex_appR ?_ _ | refine ex_wx ?_ _ | refine ex_drew ?_ | refine ex_alloc ?_ _))) (OwnU.ex hv8 (by (try show Ex _ _); with_reducible repeat (first | exact ex_refl _ | assumption | refine ex_drewL ?_ | refine ex_appR ?_ _ | refine ex_wx ?_ _ | refine ex_drew ?_ | refine ex_alloc ?_ _)))).mono ?_); rintro e w5 ⟨rfl, F5', K5⟩; have F5 : FrP p W8 w5 := (Frm.ex (by (try show Ex _ _); with_reducible repeat (first | exact ex_refl _ | assumption | refine ex_drewL ?_ | refine ex_appR ?_ _ | refine ex_wx ?_ _ | refine ex_drew ?_ | refine ex_alloc ?_ _))).trans F5'; have kA5 : Ex A w5 := F5.exA kA8 hAp; have hv85 := Lib.hid (hv8'.out _ F5); replace F5' := Lib.hid F5') | (go_at_call 61; (with_reducible refine (HSm.out _ _ (ex_trans kA5 (by (try show Ex _ _); with_reducible repeat (first | exact ex_refl _ | assumption | refine ex_drewL ?_ | refine ex_appR ?_ _ | refine ex_wx ?_ _ | refine ex_drew ?_ | refine ex_alloc ?_ _))) (OwnU.ex hv85.out (by (try show Ex _ _); with_reducible repeat (first | exact ex_refl _ | assumption | refine ex_drewL ?_ | refine ex_appR ?_ _ | refine ex_wx ?_ _ | refine ex_drew ?_ | refine ex_alloc ?_ _)))).mono ?_); rintro e w3 ⟨rfl, X5, rfl⟩)); (first | done | refine mixQH_mk (⟨_, kq2F (SQ.out _ (by first | exact F5 | exact F5.trans (Frm.ex (by (try show Ex _ _); with_reducible repeat (first | exact ex_refl _ | assumption | refine ex_drewL ?_ | refine ex_appR ?_ _ | refine ex_wx ?_ _ | refine ex_drew ?_ | refine ex_alloc ?_ _))) | exact Frm.ex (by (try show Ex _ _); with_reducible repeat (first | exact ex_refl _ | assumption | refine ex_drewL ?_ | refine ex_appR ?_ _ | refine ex_wx ?_ _ | refine ex_drew ?_ | refine ex_alloc ?_ _)))) (by refine wk_zeroE K8 ?_; repeat (first | (with_reducible exact WkE.of K5) | (with_reducible exact WkE.of K8) | (with_reducible refine WkE.allocR ?_ _) | (with_reducible refine WkE.wxR ?_ _) | (with_reducible refine WkE.drewR ?_)))⟩) ?_)))
        all_goals (with_reducible refine wpForkH_nil ?_)
        go_wp2
        go_ret
        exact ⟨rfl, F8.trans (F5.trans (Frm.ex (by (try show Ex _ _); with_reducible repeat (first | exact ex_refl _ | assumption | refine ex_drewL ?_ | refine ex_appR ?_ _ | refine ex_wx ?_ _ | refine ex_drew ?_ | refine ex_alloc ?_ _)))), K5.ex (by (try show Ex _ _); with_reducible repeat (first | exact ex_refl _ | assumption | refine ex_drewL ?_ | refine ex_appR ?_ _ | refine ex_wx ?_ _ | refine ex_drew ?_ | refine ex_alloc ?_ _))⟩
    ·
      unfold PostKS outS
      simp only [if_neg hq]
      have hqn : ((q'.length : Int) == 0) = false := beq_eq_false_iff_ne.2 (by have := List.length_pos_iff.2 hq; omega)
      cases bb
      all_goals
        go_enter Tryd.func98, Tryd.ntmps98
        go_wp2
        refine wp_region_seqA (w.alloc (.cells #[.pointer (some ⟨p, 0, none⟩), I T, I F, .slice pa pn pc, .slice qa qn qc] 143)) [(0, true), (1, true), (2, true), (3, true), (4, true), (5, true), (6, true), (7, true)] (by (try show Ex _ _); with_reducible repeat (first | exact ex_refl _ | assumption | refine ex_drewL ?_ | refine ex_appR ?_ _ | refine ex_wx ?_ _ | refine ex_drew ?_ | refine ex_alloc ?_ _)) (by kernel_rfl) (by kernel_rfl) (fun _ _ d _ _ h => by cases d <;> exact h) ?_
        simp only [List.map_cons, List.map_nil, nth]
        repeat (first | ((with_reducible refine wpSeq_look ?_); go_big_quiet_step (fail); (with_reducible refine wpQuiet_nil ?_)) | ((with_reducible refine wpSeq_effF ?_ ?_); (focus rfl); go_simp) | ((with_reducible refine wpSeq_eff ?_ ?_); (focus rfl); (try dsimp only); go_wp2_with (fail); refine mixQ_mk (by (try show Ex _ _); with_reducible repeat (first | exact ex_refl _ | assumption | refine ex_drewL ?_ | refine ex_appR ?_ _ | refine ex_wx ?_ _ | refine ex_drew ?_ | refine ex_alloc ?_ _)) ?_))
        refine wpSeq_nil ?_
        go_wp2
        refine wp_worldC fun W6 hW6 => ?_
        have kw6 : Ex (w.alloc (.cells #[.pointer (some ⟨p, 0, none⟩), I T, I F, .slice pa pn pc, .slice qa qn qc] 143)) W6 := by rw [← hW6]; exact (by (try show Ex _ _); with_reducible repeat (first | exact ex_refl _ | assumption | refine ex_drewL ?_ | refine ex_appR ?_ _ | refine ex_wx ?_ _ | refine ex_drew ?_ | refine ex_alloc ?_ _))
        have S6 := hSp0.out W6 kw6
        have kww : Ex w W6 := ex_trans (ex_alloc (ex_refl _) _) kw6
        have kA6 : Ex A W6 := ex_trans kA kww
        have K6 := HK.out.ex kww
        have F6w : FrP p w W6 := Frm.ex kww
        have n7 : cellsN W6 (w.heap.size + 1) 0 32 = some (rowB 32 (dF t)) := by rw [← hW6, ← htz.out, row_zeroC]; simp [go_sem]
        have z7 : w.heap.size + 1 < W6.heap.size := by rw [← hW6]; simp [go_sem]
        have h7p : w.heap.size + 1 ≠ p := by omega
        clear hW6
        obtain ⟨r7, hr7⟩ : ∃ r, w.heap.size + 1 = r := ⟨_, rfl⟩
        rw [hr7] at n7 z7 h7p ⊢
        obtain ⟨q, hqq⟩ : ∃ r, w.heap.size = r := ⟨_, rfl⟩
        rw [hqq] at S6 ⊢
        clear hqq hr7
        have hv0 := K6.width
        have hp6 := K6.lt
        obtain ⟨e0, e1, e2, e3, ⟨qa6, qc6, e4⟩, e5⟩ := S6.cells
        have l6 := cell_of_row W6 lb 0 _ _ _ (ex_block kA6 hlb)
        have zl6 := (Array.getElem?_eq_some_iff.1 (ex_block kA6 hlb)).1
        refine wp_region_seq [(0, true), (1, true), (2, true), (3, true), (4, true), (5, true), (6, true), (7, false), (8, false), (9, true)] (by kernel_rfl) (by kernel_rfl) (fun _ _ d _ _ h => by cases d <;> exact h) ?_
        simp only [List.map_cons, List.map_nil, nth]
        repeat (first | ((with_reducible refine wpSeq_look ?_); go_big_quiet_step (fail); (with_reducible refine wpQuiet_nil ?_)) | ((with_reducible refine wpSeq_effF ?_ ?_); (focus rfl); go_simp) | ((with_reducible refine wpSeq_eff ?_ ?_); (focus rfl); (try dsimp only); go_wp2_with (first | (go_at_call 78; (with_reducible refine (HTp.out _ (ex_trans kA6 (by (try show Ex _ _); with_reducible repeat (first | exact ex_refl _ | assumption | refine ex_drewL ?_ | refine ex_appR ?_ _ | refine ex_wx ?_ _ | refine ex_drew ?_ | refine ex_alloc ?_ _)))).mono ?_); rintro e w3 ⟨rfl, X8, rfl⟩) | (go_at_call 77; (with_reducible refine (HCr.out _).mono ?_); rintro e w3 ⟨v8, rfl, hv8, X9, rfl⟩; (try simp only [wx_wx, wx_drew] at hv8))); refine mixQ_mk (by (try show Ex _ _); with_reducible repeat (first | exact ex_refl _ | assumption | refine ex_drewL ?_ | refine ex_appR ?_ _ | refine ex_wx ?_ _ | refine ex_drew ?_ | refine ex_alloc ?_ _)) ?_))
        refine wpSeq_nil ?_
        go_wp2
        refine wp_worldC fun W8 hW8 => ?_
        have k8 : Ex W6 W8 := by rw [← hW8]; exact (by (try show Ex _ _); with_reducible repeat (first | exact ex_refl _ | assumption | refine ex_drewL ?_ | refine ex_appR ?_ _ | refine ex_wx ?_ _ | refine ex_drew ?_ | refine ex_alloc ?_ _))
        replace hv8 : OwnU W8 v8 is := by rw [← hW8]; exact OwnU.ex hv8 (by (try show Ex _ _); with_reducible repeat (first | exact ex_refl _ | assumption | refine ex_drewL ?_ | refine ex_appR ?_ _ | refine ex_wx ?_ _ | refine ex_drew ?_ | refine ex_alloc ?_ _))
        clear hW8
        have K8 := K6.ex k8
        have S8 := S6.ex k8
        have kA8 : Ex A W8 := ex_trans kA6 k8
        have F8 : FrP p w W8 := F6w.trans (Frm.ex k8)
        have n78 := cellsN_exF n7 z7 k8
        have z78 : r7 < W8.heap.size := Nat.lt_of_lt_of_le z7 (ex_size k8)
        have zp8 := K8.lt
        have w8 := K8.width
        have hnz := S8.ne K8
        obtain ⟨u0, u1, u2, u3, ⟨qa8, qc8, u4⟩, u5⟩ := S8.cells
        clear e0 e1 e2 e3 e4 e5 l6 zl6 hv0 hp6 n7 z7
        refine wp_region_seq [(0, true), (1, true), (2, true), (3, true), (4, true), (5, true), (6, true), (7, true), (8, true), (9, true), (10, true), (11, true), (12, true), (13, true), (14, true), (16, true), (18, true), (19, true), (20, true), (21, true), (22, true), (15, false), (17, false), (23, false), (24, true), (25, true), (26, true)] (by kernel_rfl) (by kernel_rfl) (fun _ _ d _ _ h => by cases d <;> exact h) ?_
        simp only [List.map_cons, List.map_nil, nth]
        repeat (first | ((with_reducible refine wpSeq_look ?_); go_big_quiet_step (fail); (with_reducible refine wpQuiet_nil ?_)) | ((with_reducible refine wpSeq_effF ?_ ?_); (focus rfl); go_simp) | ((with_reducible refine wpSeq_eff ?_ ?_); (focus rfl); (try dsimp only); go_wp2_with (fail); refine mixQ_mk (by (try show Ex _ _); with_reducible repeat (first | exact ex_refl _ | assumption | refine ex_drewL ?_ | refine ex_appR ?_ _ | refine ex_wx ?_ _ | refine ex_drew ?_ | refine ex_alloc ?_ _)) ?_))
        refine wpSeq_nil ?_
        go_wp2
        go_ret
        exact ⟨rfl, F8.trans (Frm.ex (by (try show Ex _ _); with_reducible repeat (first | exact ex_refl _ | assumption | refine ex_drewL ?_ | refine ex_appR ?_ _ | refine ex_wx ?_ _ | refine ex_drew ?_ | refine ex_alloc ?_ _))), K8.ex (by (try show Ex _ _); with_reducible repeat (first | exact ex_refl _ | assumption | refine ex_drewL ?_ | refine ex_appR ?_ _ | refine ex_wx ?_ _ | refine ex_drew ?_ | refine ex_alloc ?_ _))⟩
  · have tT : decide ((0 : Int) < T) = true := decide_eq_true (by omega)
    have tT2 : decide (0 < T) = true := decide_eq_true (by omega)
    have hT0' := Lib.hid hT0
    have hTp : Hid (0 < T) := Lib.hid (by omega)
    clear hT0 hTz
    have HSS : Hid (∃ hv : Value, hv = (if bb = true then .slice la l.length lc else .slice none 0 0) ∧ ∀ w' q, A.heap.size ≤ q → Ex A w' → Wk w' p W none → Sp A w' q p T F (.slice pa pn pc) qs → Calls Tryd.prog 99 #[.pointer (some ⟨q, 0, none⟩), I 0, I T, hv] w' (PostTs A p q W T F (.slice pa pn pc) w' o)) := Lib.hid (by
      cases bb with
      | true => exact ⟨_, rfl, fun w' q h1 h2 h3 h4 => hSl.out w' q h1 h2 h3 h4 hTp.out (HbL.out.1 rfl)⟩
      | false => exact ⟨_, rfl, fun w' q h1 h2 h3 h4 => hSn.out w' q h1 h2 h3 h4 hTp.out (HbL.out.2 rfl)⟩)
    clear hSl hSn HbL
    obtain ⟨hv, hhv, HCt'⟩ := HSS.out
    have HCt := Lib.hid HCt'
    clear HCt' HSS
    cases o with
    | none =>
      have HCn : Hid (∀ w' q, A.heap.size ≤ q → Ex A w' → Wk w' p W none → Sp A w' q p T F (.slice pa pn pc) qs → Calls Tryd.prog 99 #[.pointer (some ⟨q, 0, none⟩), I 0, I T, hv] w' (fun e w2 => e = offE ∧ FrQ p q w' w2 ∧ ∃ c, Wk w2 p W c)) := HCt
      clear HCt
      cases bb
      all_goals
        simp only [if_true, if_false, Bool.false_eq_true] at hhv
        subst hhv
        go_enter Tryd.func98, Tryd.ntmps98
        go_wp2
        refine wp_region_seqA (w.alloc (.cells #[.pointer (some ⟨p, 0, none⟩), I T, I F, .slice pa pn pc, .slice qa qn qc] 143)) [(0, true), (1, true), (2, true), (3, true), (4, true), (5, true), (6, true), (7, true)] (by (try show Ex _ _); with_reducible repeat (first | exact ex_refl _ | assumption | refine ex_drewL ?_ | refine ex_appR ?_ _ | refine ex_wx ?_ _ | refine ex_drew ?_ | refine ex_alloc ?_ _)) (by kernel_rfl) (by kernel_rfl) (fun _ _ d _ _ h => by cases d <;> exact h) ?_
        simp only [List.map_cons, List.map_nil, nth]
        repeat (first | ((with_reducible refine wpSeq_look ?_); go_big_quiet_step (fail); (with_reducible refine wpQuiet_nil ?_)) | ((with_reducible refine wpSeq_effF ?_ ?_); (focus rfl); go_simp) | ((with_reducible refine wpSeq_eff ?_ ?_); (focus rfl); (try dsimp only); go_wp2_with (fail); refine mixQ_mk (by (try show Ex _ _); with_reducible repeat (first | exact ex_refl _ | assumption | refine ex_drewL ?_ | refine ex_appR ?_ _ | refine ex_wx ?_ _ | refine ex_drew ?_ | refine ex_alloc ?_ _)) ?_))
        refine wpSeq_nil ?_
        go_wp2_with (go_at_call 99; (with_reducible refine (HCn.out _ _ hq0 (ex_trans kA (by (try show Ex _ _); with_reducible repeat (first | exact ex_refl _ | assumption | refine ex_drewL ?_ | refine ex_appR ?_ _ | refine ex_wx ?_ _ | refine ex_drew ?_ | refine ex_alloc ?_ _))) (HK.out.ex (by (try show Ex _ _); with_reducible repeat (first | exact ex_refl _ | assumption | refine ex_drewL ?_ | refine ex_appR ?_ _ | refine ex_wx ?_ _ | refine ex_drew ?_ | refine ex_alloc ?_ _))) (hSp0.out _ (by (try show Ex _ _); with_reducible repeat (first | exact ex_refl _ | assumption | refine ex_drewL ?_ | refine ex_appR ?_ _ | refine ex_wx ?_ _ | refine ex_drew ?_ | refine ex_alloc ?_ _)))).mono ?_); rintro e w2 ⟨rfl, F2, c2, K2⟩; dsimp only [offE]; exact ⟨rfl, rfl, FrQ.narrow (w := w) (by (try show Ex _ _); with_reducible repeat (first | exact ex_refl _ | assumption | refine ex_drewL ?_ | refine ex_appR ?_ _ | refine ex_wx ?_ _ | refine ex_drew ?_ | refine ex_alloc ?_ _)) F2 (Nat.le_refl _), c2, K2⟩)
    | some x =>
      obtain ⟨t, q', c1⟩ := x
      have HCn : Hid (∀ w' q, A.heap.size ≤ q → Ex A w' → Wk w' p W none → Sp A w' q p T F (.slice pa pn pc) qs → Calls Tryd.prog 99 #[.pointer (some ⟨q, 0, none⟩), I 0, I T, hv] w' (fun e w2 => e = .returned (.agg (rowB 32 (dF t))) ∧ FrQ p q w' w2 ∧ Wk w2 p W c1 ∧ Sp A w2 q p T F (.slice pa pn pc) q')) := HCt
      clear HCt
      by_cases hq : q' = []
      ·
        unfold PostKS outS
        simp only [if_pos hq]
        have HCt2 := Lib.hid fun w' => crownB_any T hT1 t w'
        have HPt0 : Hid (∀ w' v u, Ex A w' → Wk w' p W c1 → OwnU w' v (crownL T t) → OwnU w' u is → Calls Tryd.prog 100 #[.pointer (some ⟨p, 0, none⟩), v, u] w' (PostK p W w' (.agg (rowB 32 (dF (sumW W (crownL T t))))) (putC (sumW W) (crownL T t) is c1).2)) :=
          Lib.hid fun w' v u k h0 h1 h2 => put_any G W hW (ex_trans k0 k) h0 h1 h2 (by have := crownL_len T t; omega) (by have := his.out; omega)
        have HSm := Lib.hid fun w' v (k : Ex A w') (h : OwnU w' v is) => wsum_any G W hW (ex_trans k0 k) h.slt (by have := his.out; omega)
        have he := eqD (sumW W (crownL T t)) (sumW W is)
        generalize decide (sumW W (crownL T t) = sumW W is) = be at he ⊢
        generalize sumW W (crownL T t) = xa at he HPt0
        generalize sumW W is = xb at he HSm
        generalize crownL T t = cl at HCt2 HPt0 ⊢
        generalize (putC (sumW W) cl is c1).2 = c5 at HPt0 ⊢
        cases bb
        all_goals
          simp only [if_true, if_false, Bool.false_eq_true] at hhv
          subst hhv
          go_enter Tryd.func98, Tryd.ntmps98
          go_wp2
          refine wp_region_seqA (w.alloc (.cells #[.pointer (some ⟨p, 0, none⟩), I T, I F, .slice pa pn pc, .slice qa qn qc] 143)) [(0, true), (1, true), (2, true), (3, true), (4, true), (5, true), (6, true), (7, true)] (by (try show Ex _ _); with_reducible repeat (first | exact ex_refl _ | assumption | refine ex_drewL ?_ | refine ex_appR ?_ _ | refine ex_wx ?_ _ | refine ex_drew ?_ | refine ex_alloc ?_ _)) (by kernel_rfl) (by kernel_rfl) (fun _ _ d _ _ h => by cases d <;> exact h) ?_
          simp only [List.map_cons, List.map_nil, nth]
          repeat (first | ((with_reducible refine wpSeq_look ?_); go_big_quiet_step (fail); (with_reducible refine wpQuiet_nil ?_)) | ((with_reducible refine wpSeq_effF ?_ ?_); (focus rfl); go_simp) | ((with_reducible refine wpSeq_eff ?_ ?_); (focus rfl); (try dsimp only); go_wp2_with (fail); refine mixQ_mk (by (try show Ex _ _); with_reducible repeat (first | exact ex_refl _ | assumption | refine ex_drewL ?_ | refine ex_appR ?_ _ | refine ex_wx ?_ _ | refine ex_drew ?_ | refine ex_alloc ?_ _)) ?_))
          refine wpSeq_nil ?_
          go_wp2_with (go_at_call 99; (with_reducible refine (HCn.out _ _ hq0 (ex_trans kA (by (try show Ex _ _); with_reducible repeat (first | exact ex_refl _ | assumption | refine ex_drewL ?_ | refine ex_appR ?_ _ | refine ex_wx ?_ _ | refine ex_drew ?_ | refine ex_alloc ?_ _))) (HK.out.ex (by (try show Ex _ _); with_reducible repeat (first | exact ex_refl _ | assumption | refine ex_drewL ?_ | refine ex_appR ?_ _ | refine ex_wx ?_ _ | refine ex_drew ?_ | refine ex_alloc ?_ _))) (hSp0.out _ (by (try show Ex _ _); with_reducible repeat (first | exact ex_refl _ | assumption | refine ex_drewL ?_ | refine ex_appR ?_ _ | refine ex_wx ?_ _ | refine ex_drew ?_ | refine ex_alloc ?_ _)))).mono ?_); rintro e w2 ⟨rfl, F2', K2, S2⟩; have F2w : FrP p w w2 := FrQ.narrow (w := w) (by (try show Ex _ _); with_reducible repeat (first | exact ex_refl _ | assumption | refine ex_drewL ?_ | refine ex_appR ?_ _ | refine ex_wx ?_ _ | refine ex_drew ?_ | refine ex_alloc ?_ _)) F2' (Nat.le_refl _); ((with_reducible refine frG32_try (r := w.heap.size + 1) (cs := rowB 32 fun _ => 0) F2' ?_ ?_ ?_ ?_ ?_); rotate_left; (focus ((repeat (first | (with_reducible assumption) | (with_reducible refine IdB.setsR ?_ _ _ _) | ((with_reducible refine IdB.new' ?_); (simp [go_sem]; done)) | (with_reducible refine IdB.allocR ?_ _) | (with_reducible refine IdB.wxR ?_ _) | (with_reducible refine IdB.drewR ?_))); done)); (focus (intro e; rcases e with e | e <;> omega)); (focus (simp [go_sem]; done)); (focus (simp [go_sem]; done)); rintro ⟨m7, f7, y7, i7⟩); replace F2' := Lib.hid F2')
          refine wp_worldC fun W6 hW6 => ?_
          have F6w : FrP p w W6 := by rw [← hW6]; exact (F2w.setsNew (by omega) _ _)
          have kA6 : Ex A W6 := F6w.exA kA hAp
          have K6 : Wk W6 p W c1 := by rw [← hW6]; exact K2.setsR i7 _ _
          have S6 : Sp A W6 w.heap.size p T F (.slice pa pn pc) q' := by rw [← hW6]; exact S2.setsR (by omega) _ _
          have n7 : cellsN W6 (w.heap.size + 1) 0 32 = some (rowB 32 (dF t)) := by rw [← hW6]; simp [go_sem, m7]
          have z7 : w.heap.size + 1 < W6.heap.size := by rw [← hW6, setCells_size]; exact y7
          have h7p : w.heap.size + 1 ≠ p := by omega
          clear hW6 m7 f7 y7 i7 F2w K2 S2 F2'
          obtain ⟨r7, hr7⟩ : ∃ r, w.heap.size + 1 = r := ⟨_, rfl⟩
          rw [hr7] at n7 z7 h7p ⊢
          obtain ⟨q, hqq⟩ : ∃ r, w.heap.size = r := ⟨_, rfl⟩
          rw [hqq] at S6 ⊢
          clear hqq hr7
          have hv0 := K6.width
          have hp6 := K6.lt
          obtain ⟨e0, e1, e2, e3, ⟨qa6, qc6, e4⟩, e5⟩ := S6.cells
          have l6 := cell_of_row W6 lb 0 _ _ _ (ex_block kA6 hlb)
          have zl6 := (Array.getElem?_eq_some_iff.1 (ex_block kA6 hlb)).1
          refine wp_region_seq [(0, true), (1, true), (2, true), (3, true), (4, true), (5, true), (6, true), (7, false), (8, false), (9, true)] (by kernel_rfl) (by kernel_rfl) (fun _ _ d _ _ h => by cases d <;> exact h) ?_
          simp only [List.map_cons, List.map_nil, nth]
          repeat (first | ((with_reducible refine wpSeq_look ?_); go_big_quiet_step (fail); (with_reducible refine wpQuiet_nil ?_)) | ((with_reducible refine wpSeq_effF ?_ ?_); (focus rfl); go_simp) | ((with_reducible refine wpSeq_eff ?_ ?_); (focus rfl); (try dsimp only); go_wp2_with (first | (go_at_call 78; (with_reducible refine (HTp.out _ (ex_trans kA6 (by (try show Ex _ _); with_reducible repeat (first | exact ex_refl _ | assumption | refine ex_drewL ?_ | refine ex_appR ?_ _ | refine ex_wx ?_ _ | refine ex_drew ?_ | refine ex_alloc ?_ _)))).mono ?_); rintro e w3 ⟨rfl, X8, rfl⟩) | (go_at_call 77; (with_reducible refine (HCr.out _).mono ?_); rintro e w3 ⟨v8, rfl, hv8, X9, rfl⟩; (try simp only [wx_wx, wx_drew] at hv8))); refine mixQ_mk (by (try show Ex _ _); with_reducible repeat (first | exact ex_refl _ | assumption | refine ex_drewL ?_ | refine ex_appR ?_ _ | refine ex_wx ?_ _ | refine ex_drew ?_ | refine ex_alloc ?_ _)) ?_))
          refine wpSeq_nil ?_
          go_wp2
          refine wp_worldC fun W8 hW8 => ?_
          have k8 : Ex W6 W8 := by rw [← hW8]; exact (by (try show Ex _ _); with_reducible repeat (first | exact ex_refl _ | assumption | refine ex_drewL ?_ | refine ex_appR ?_ _ | refine ex_wx ?_ _ | refine ex_drew ?_ | refine ex_alloc ?_ _))
          replace hv8 : OwnU W8 v8 is := by rw [← hW8]; exact OwnU.ex hv8 (by (try show Ex _ _); with_reducible repeat (first | exact ex_refl _ | assumption | refine ex_drewL ?_ | refine ex_appR ?_ _ | refine ex_wx ?_ _ | refine ex_drew ?_ | refine ex_alloc ?_ _))
          clear hW8
          have K8 := K6.ex k8
          have S8 := S6.ex k8
          have kA8 : Ex A W8 := ex_trans kA6 k8
          have F8 : FrP p w W8 := F6w.trans (Frm.ex k8)
          have n78 := cellsN_exF n7 z7 k8
          have z78 : r7 < W8.heap.size := Nat.lt_of_lt_of_le z7 (ex_size k8)
          have zp8 := K8.lt
          have w8 := K8.width
          have hnz := S8.ne K8
          obtain ⟨u0, u1, u2, u3, ⟨qa8, qc8, u4⟩, u5⟩ := S8.cells
          clear e0 e1 e2 e3 e4 e5 l6 zl6 hv0 hp6 n7 z7
          rw [hq, List.length_nil] at u4
          have hv8' := Lib.hid fun w5 (F : FrP p W8 w5) => hv8.frm K8.nou F
          have HPt : Hid (∀ w' v u, Ex W8 w' → OwnU w' v cl → OwnU w' u is → Calls Tryd.prog 100 #[.pointer (some ⟨p, 0, none⟩), v, u] w' (PostK p W w' (.agg (rowB 32 (dF xa))) c5)) :=
            Lib.hid fun w' v u k h1 h2 => HPt0.out w' v u (ex_trans kA8 k) (K8.ex k) h1 h2
          obtain ⟨P, hP⟩ : ∃ P : Nat → Prop, P = fun k => k = p := ⟨_, rfl⟩
          have nP1 : ¬ P q := by rw [hP]; exact hnz
          have hPp : P p := by rw [hP]
          have nP3 : ¬ P r7 := by rw [hP]; exact h7p
          have SQ : Hid (∀ w5, FrP p W8 w5 → Frm P W8 w5) := Lib.hid fun w5 F => F.mono fun b e => by rw [hP]; exact e
          clear hP
          refine wp_region_forkH (fun w' => ∃ X, w' = kq2 W8 p P X) (.look 0 (.look 1 (.look 2 (.look 3 (.look 4 (.look 5 (.look 6 (.look 7 (.look 8 (.look 9 (.look 10 (.look 11 (.look 12 (.look 13 (.look 14 (.look 16 (.look 18 (.look 19 (.look 20 (.look 21 (.look 22 (.eff 15 (.eff 17 (.eff 23 (.look 24 (.look 25 (.look 26 .done))))))))))))))))))))))))))) (⟨_, kq2_of (fun _ _ _ => rfl) rfl⟩) (by kernel_rfl) (by kernel_rfl) (fun _ _ d _ _ h => by cases d <;> exact h) ?_
          simp only [Fk.ops, nth]
          repeat (first | ((with_reducible refine wpForkH_look ?_); go_big_quiet_step (fail); (try (with_reducible refine wpQuiet_nil ?_))) | (with_reducible refine wpForkH_eff ?_) | ((with_reducible refine effH_F ?_ ?_); (focus rfl); go_simp) | ((with_reducible refine effH_T ?_ ?_); (focus rfl); (try dsimp only); go_wp2_with (first | (go_at_call 77; (with_reducible refine (HCt2.out _).mono ?_); rintro e w3 ⟨v9, rfl, hv9, X4, rfl⟩; (try simp only [wx_wx, wx_drew] at hv9)) | (go_at_call 100; (with_reducible refine (HPt.out _ _ _ (by (try show Ex _ _); with_reducible repeat (first | exact ex_refl _ | assumption | refine ex_drewL ?_ | refine ex_appR ?_ _ | refine ex_wx ?_ _ | refine ex_drew ?_ | refine ex_alloc ?_ _)) (OwnU.ex hv9 (by (try show Ex _ _); with_reducible repeat (first | exact ex_refl _ | assumption | refine ex_drewL ?_ | refine ex_appR ?_ _ | refine ex_wx ?_ _ | refine ex_drew ?_ | refine ex_alloc ?_ _))) (OwnU.ex hv8 (by (try show Ex _ _); with_reducible repeat (first | exact ex_refl _ | assumption | refine ex_drewL ?_ | refine ex_appR ?_ _ | refine ex_wx ?_ _ | refine ex_drew ?_ | refine ex_alloc ?_ _)))).mono ?_); rintro e w5 ⟨rfl, F5', K5⟩; have F5 : FrP p W8 w5 := (Frm.ex (by (try show Ex _ _); with_reducible repeat (first | exact ex_refl _ | assumption | refine ex_drewL ?_ | refine ex_appR ?_ _ | refine ex_wx ?_ _ | refine ex_drew ?_ | refine ex_alloc ?_ _))).trans F5'; have kA5 : Ex A w5 := F5.exA kA8 hAp; have hv85 := Lib.hid (hv8'.out _ F5); replace F5' := Lib.hid F5') | (go_at_call 61; (with_reducible refine (HSm.out _ _ (ex_trans kA5 (by (try show Ex _ _); with_reducible repeat (first | exact ex_refl _ | assumption | refine ex_drewL ?_ | refine ex_appR ?_ _ | refine ex_wx ?_ _ | refine ex_drew ?_ | refine ex_alloc ?_ _))) (OwnU.ex hv85.out (by (try show Ex _ _); with_reducible repeat (first | exact ex_refl _ | assumption | refine ex_drewL ?_ | refine ex_appR ?_ _ | refine ex_wx ?_ _ | refine ex_drew ?_ | refine ex_alloc ?_ _)))).mono ?_); rintro e w3 ⟨rfl, X5, rfl⟩)); (first | done | refine mixQH_mk (⟨_, kq2F (SQ.out _ (by first | exact F5 | exact F5.trans (Frm.ex (by (try show Ex _ _); with_reducible repeat (first | exact ex_refl _ | assumption | refine ex_drewL ?_ | refine ex_appR ?_ _ | refine ex_wx ?_ _ | refine ex_drew ?_ | refine ex_alloc ?_ _))) | exact Frm.ex (by (try show Ex _ _); with_reducible repeat (first | exact ex_refl _ | assumption | refine ex_drewL ?_ | refine ex_appR ?_ _ | refine ex_wx ?_ _ | refine ex_drew ?_ | refine ex_alloc ?_ _)))) (by refine wk_zeroE K8 ?_; repeat (first | (with_reducible exact WkE.of K5) | (with_reducible exact WkE.of K8) | (with_reducible refine WkE.allocR ?_ _) | (with_reducible refine WkE.wxR ?_ _) | (with_reducible refine WkE.drewR ?_)))⟩) ?_)))
          all_goals (with_reducible refine wpForkH_nil ?_)
          go_wp2
          go_ret
          exact ⟨rfl, F8.trans (F5.trans (Frm.ex (by (try show Ex _ _); with_reducible repeat (first | exact ex_refl _ | assumption | refine ex_drewL ?_ | refine ex_appR ?_ _ | refine ex_wx ?_ _ | refine ex_drew ?_ | refine ex_alloc ?_ _)))), K5.ex (by (try show Ex _ _); with_reducible repeat (first | exact ex_refl _ | assumption | refine ex_drewL ?_ | refine ex_appR ?_ _ | refine ex_wx ?_ _ | refine ex_drew ?_ | refine ex_alloc ?_ _))⟩
      ·
        unfold PostKS outS
        simp only [if_neg hq]
        have hqn : ((q'.length : Int) == 0) = false := beq_eq_false_iff_ne.2 (by have := List.length_pos_iff.2 hq; omega)
        cases bb
        all_goals
          simp only [if_true, if_false, Bool.false_eq_true] at hhv
          subst hhv
          go_enter Tryd.func98, Tryd.ntmps98
          go_wp2
          refine wp_region_seqA (w.alloc (.cells #[.pointer (some ⟨p, 0, none⟩), I T, I F, .slice pa pn pc, .slice qa qn qc] 143)) [(0, true), (1, true), (2, true), (3, true), (4, true), (5, true), (6, true), (7, true)] (by (try show Ex _ _); with_reducible repeat (first | exact ex_refl _ | assumption | refine ex_drewL ?_ | refine ex_appR ?_ _ | refine ex_wx ?_ _ | refine ex_drew ?_ | refine ex_alloc ?_ _)) (by kernel_rfl) (by kernel_rfl) (fun _ _ d _ _ h => by cases d <;> exact h) ?_
          simp only [List.map_cons, List.map_nil, nth]
          repeat (first | ((with_reducible refine wpSeq_look ?_); go_big_quiet_step (fail); (with_reducible refine wpQuiet_nil ?_)) | ((with_reducible refine wpSeq_effF ?_ ?_); (focus rfl); go_simp) | ((with_reducible refine wpSeq_eff ?_ ?_); (focus rfl); (try dsimp only); go_wp2_with (fail); refine mixQ_mk (by (try show Ex _ _); with_reducible repeat (first | exact ex_refl _ | assumption | refine ex_drewL ?_ | refine ex_appR ?_ _ | refine ex_wx ?_ _ | refine ex_drew ?_ | refine ex_alloc ?_ _)) ?_))
          refine wpSeq_nil ?_
          go_wp2_with (go_at_call 99; (with_reducible refine (HCn.out _ _ hq0 (ex_trans kA (by (try show Ex _ _); with_reducible repeat (first | exact ex_refl _ | assumption | refine ex_drewL ?_ | refine ex_appR ?_ _ | refine ex_wx ?_ _ | refine ex_drew ?_ | refine ex_alloc ?_ _))) (HK.out.ex (by (try show Ex _ _); with_reducible repeat (first | exact ex_refl _ | assumption | refine ex_drewL ?_ | refine ex_appR ?_ _ | refine ex_wx ?_ _ | refine ex_drew ?_ | refine ex_alloc ?_ _))) (hSp0.out _ (by (try show Ex _ _); with_reducible repeat (first | exact ex_refl _ | assumption | refine ex_drewL ?_ | refine ex_appR ?_ _ | refine ex_wx ?_ _ | refine ex_drew ?_ | refine ex_alloc ?_ _)))).mono ?_); rintro e w2 ⟨rfl, F2', K2, S2⟩; have F2w : FrP p w w2 := FrQ.narrow (w := w) (by (try show Ex _ _); with_reducible repeat (first | exact ex_refl _ | assumption | refine ex_drewL ?_ | refine ex_appR ?_ _ | refine ex_wx ?_ _ | refine ex_drew ?_ | refine ex_alloc ?_ _)) F2' (Nat.le_refl _); ((with_reducible refine frG32_try (r := w.heap.size + 1) (cs := rowB 32 fun _ => 0) F2' ?_ ?_ ?_ ?_ ?_); rotate_left; (focus ((repeat (first | (with_reducible assumption) | (with_reducible refine IdB.setsR ?_ _ _ _) | ((with_reducible refine IdB.new' ?_); (simp [go_sem]; done)) | (with_reducible refine IdB.allocR ?_ _) | (with_reducible refine IdB.wxR ?_ _) | (with_reducible refine IdB.drewR ?_))); done)); (focus (intro e; rcases e with e | e <;> omega)); (focus (simp [go_sem]; done)); (focus (simp [go_sem]; done)); rintro ⟨m7, f7, y7, i7⟩); replace F2' := Lib.hid F2')
          refine wp_worldC fun W6 hW6 => ?_
          have F6w : FrP p w W6 := by rw [← hW6]; exact (F2w.setsNew (by omega) _ _)
          have kA6 : Ex A W6 := F6w.exA kA hAp
          have K6 : Wk W6 p W c1 := by rw [← hW6]; exact K2.setsR i7 _ _
          have S6 : Sp A W6 w.heap.size p T F (.slice pa pn pc) q' := by rw [← hW6]; exact S2.setsR (by omega) _ _
          have n7 : cellsN W6 (w.heap.size + 1) 0 32 = some (rowB 32 (dF t)) := by rw [← hW6]; simp [go_sem, m7]
          have z7 : w.heap.size + 1 < W6.heap.size := by rw [← hW6, setCells_size]; exact y7
          have h7p : w.heap.size + 1 ≠ p := by omega
          clear hW6 m7 f7 y7 i7 F2w K2 S2 F2'
          obtain ⟨r7, hr7⟩ : ∃ r, w.heap.size + 1 = r := ⟨_, rfl⟩
          rw [hr7] at n7 z7 h7p ⊢
          obtain ⟨q, hqq⟩ : ∃ r, w.heap.size = r := ⟨_, rfl⟩
          rw [hqq] at S6 ⊢
          clear hqq hr7
          have hv0 := K6.width
          have hp6 := K6.lt
          obtain ⟨e0, e1, e2, e3, ⟨qa6, qc6, e4⟩, e5⟩ := S6.cells
          have l6 := cell_of_row W6 lb 0 _ _ _ (ex_block kA6 hlb)
          have zl6 := (Array.getElem?_eq_some_iff.1 (ex_block kA6 hlb)).1
          refine wp_region_seq [(0, true), (1, true), (2, true), (3, true), (4, true), (5, true), (6, true), (7, false), (8, false), (9, true)] (by kernel_rfl) (by kernel_rfl) (fun _ _ d _ _ h => by cases d <;> exact h) ?_
          simp only [List.map_cons, List.map_nil, nth]
          repeat (first | ((with_reducible refine wpSeq_look ?_); go_big_quiet_step (fail); (with_reducible refine wpQuiet_nil ?_)) | ((with_reducible refine wpSeq_effF ?_ ?_); (focus rfl); go_simp) | ((with_reducible refine wpSeq_eff ?_ ?_); (focus rfl); (try dsimp only); go_wp2_with (first | (go_at_call 78; (with_reducible refine (HTp.out _ (ex_trans kA6 (by (try show Ex _ _); with_reducible repeat (first | exact ex_refl _ | assumption | refine ex_drewL ?_ | refine ex_appR ?_ _ | refine ex_wx ?_ _ | refine ex_drew ?_ | refine ex_alloc ?_ _)))).mono ?_); rintro e w3 ⟨rfl, X8, rfl⟩) | (go_at_call 77; (with_reducible refine (HCr.out _).mono ?_); rintro e w3 ⟨v8, rfl, hv8, X9, rfl⟩; (try simp only [wx_wx, wx_drew] at hv8))); refine mixQ_mk (by (try show Ex _ _); with_reducible repeat (first | exact ex_refl _ | assumption | refine ex_drewL ?_ | refine ex_appR ?_ _ | refine ex_wx ?_ _ | refine ex_drew ?_ | refine ex_alloc ?_ _)) ?_))
          refine wpSeq_nil ?_
          go_wp2
          refine wp_worldC fun W8 hW8 => ?_
          have k8 : Ex W6 W8 := by rw [← hW8]; exact (by (try show Ex _ _); with_reducible repeat (first | exact ex_refl _ | assumption | refine ex_drewL ?_ | refine ex_appR ?_ _ | refine ex_wx ?_ _ | refine ex_drew ?_ | refine ex_alloc ?_ _))
          replace hv8 : OwnU W8 v8 is := by rw [← hW8]; exact OwnU.ex hv8 (by (try show Ex _ _); with_reducible repeat (first | exact ex_refl _ | assumption | refine ex_drewL ?_ | refine ex_appR ?_ _ | refine ex_wx ?_ _ | refine ex_drew ?_ | refine ex_alloc ?_ _))
          clear hW8
          have K8 := K6.ex k8
          have S8 := S6.ex k8
          have kA8 : Ex A W8 := ex_trans kA6 k8
          have F8 : FrP p w W8 := F6w.trans (Frm.ex k8)
          have n78 := cellsN_exF n7 z7 k8
          have z78 : r7 < W8.heap.size := Nat.lt_of_lt_of_le z7 (ex_size k8)
          have zp8 := K8.lt
          have w8 := K8.width
          have hnz := S8.ne K8
          obtain ⟨u0, u1, u2, u3, ⟨qa8, qc8, u4⟩, u5⟩ := S8.cells
          clear e0 e1 e2 e3 e4 e5 l6 zl6 hv0 hp6 n7 z7
          refine wp_region_seq [(0, true), (1, true), (2, true), (3, true), (4, true), (5, true), (6, true), (7, true), (8, true), (9, true), (10, true), (11, true), (12, true), (13, true), (14, true), (16, true), (18, true), (19, true), (20, true), (21, true), (22, true), (15, false), (17, false), (23, false), (24, true), (25, true), (26, true)] (by kernel_rfl) (by kernel_rfl) (fun _ _ d _ _ h => by cases d <;> exact h) ?_
          simp only [List.map_cons, List.map_nil, nth]
          repeat (first | ((with_reducible refine wpSeq_look ?_); go_big_quiet_step (fail); (with_reducible refine wpQuiet_nil ?_)) | ((with_reducible refine wpSeq_effF ?_ ?_); (focus rfl); go_simp) | ((with_reducible refine wpSeq_eff ?_ ?_); (focus rfl); (try dsimp only); go_wp2_with (fail); refine mixQ_mk (by (try show Ex _ _); with_reducible repeat (first | exact ex_refl _ | assumption | refine ex_drewL ?_ | refine ex_appR ?_ _ | refine ex_wx ?_ _ | refine ex_drew ?_ | refine ex_alloc ?_ _)) ?_))
          refine wpSeq_nil ?_
          go_wp2
          go_ret
          exact ⟨rfl, F8.trans (Frm.ex (by (try show Ex _ _); with_reducible repeat (first | exact ex_refl _ | assumption | refine ex_drewL ?_ | refine ex_appR ?_ _ | refine ex_wx ?_ _ | refine ex_drew ?_ | refine ex_alloc ?_ _))), K8.ex (by (try show Ex _ _); with_reducible repeat (first | exact ex_refl _ | assumption | refine ex_drewL ?_ | refine ex_appR ?_ _ | refine ex_wx ?_ _ | refine ex_drew ?_ | refine ex_alloc ?_ _))⟩
end Go.Proofs.YtcdocklbpfdmeaaDoor
