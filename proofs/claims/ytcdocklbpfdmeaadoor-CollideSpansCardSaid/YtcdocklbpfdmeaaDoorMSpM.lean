import Derived.Test.YtcdocklbpfdmeaaDoorMSpL
import Derived.Test.YtcdocklbpfdmeaaDoorMDoA
import Derived.Test.YtcdocklbpfdmeaaDoorMLaC
import Derived.Test.YtcdocklbpfdmeaaDoorMLbA

/- Collide: Span. -/
set_option linter.unusedSimpArgs false
set_option linter.unusedVariables false
set_option linter.unnecessarySimpa false
set_option maxRecDepth 20000
namespace Go.Proofs.YtcdocklbpfdmeaaDoor
open Go.RowKit
set_option maxHeartbeats 1000000 in
theorem Span_any {w0 : World} (G : Glob w0) (W : Int) (l : List Pr) (la : Option Addr) (lc : Nat) (r : Rg) (T F : Int) (ps : List Pr) (pa : Option Addr) (pc : Nat) (qs : List Dg) (qa : Option Addr) (qc : Nat) (w : World)
    (hlc : l.length ≤ lc) (hlm : lc ≤ maxLen) (hls : SlP w la l) (hpc : ps.length ≤ pc) (hpm : pc ≤ maxLen) (hPs : SlP w pa ps) (hqc : qs.length ≤ qc) (hqm : qc ≤ maxLen) (hQs : SlD w qa qs) (k0 : Ex w0 w) :
    Calls Tryd.prog 15 #[I W, .slice la l.length lc, .agg (RC r), .agg #[I T, I F, .slice pa ps.length pc, .slice qa qs.length qc]] w (PostClT w (spanT W l r T F ps qs)) := by
  have HS := Lib.hid fun w' (k : Ex w w') => spans_any G W l la lc r T F ps pa pc qs qa qc w' hlc hlm (hls.ex k) hpc hpm (hPs.ex k) hqc hqm (hQs.ex k) (ex_trans k0 k)
  have HT := Lib.hid (fun b c pv w h => told_s b c pv w h)
  have hrest := spans_rest W l r T F ps qs
  have e0 : spanT W l r T F ps qs = tellC ((spansC W l r T F ps qs).1 && !decide (amongL ps r = amongL l r)) (spansC W l r T F ps qs).2 := rfl
  rw [e0]
  clear e0
  generalize spansC W l r T F ps qs = o at HS hrest ⊢
  obtain ⟨b, c⟩ := o
  simp only at hrest ⊢
  have HA : Hid (b = true → ∀ w', Ex w w' → Calls Tryd.prog 58 #[.slice pa ps.length pc, .agg (RC r)] w' (PostAm w' (amongL ps r))) := Lib.hid fun h w' k => among_any r ps pa pc w' (hrest h).2 hpc hpm (hPs.ex k)
  have HB : Hid (b = true → ∀ w', Ex w w' → Calls Tryd.prog 58 #[.slice la l.length lc, .agg (RC r)] w' (PostAm w' (amongL l r))) := Lib.hid fun h w' k => among_any r l la lc w' (hrest h).1 hlc hlm (hls.ex k)
  have HE := Lib.hid fun a1 a2 c1 c2 w' h1 h2 h3 h4 h5 h6 => equalC_any (amongL ps r) (amongL l r) a1 a2 c1 c2 w' h1 h2 h3 h4 h5 h6
  generalize decide (amongL ps r = amongL l r) = eq at HE ⊢
  generalize amongL ps r = am at HA HE
  generalize amongL l r = bm at HB HE
  generalize l.length = n at *
  generalize ps.length = pn at *
  generalize qs.length = qn at *
  clear hls hPs hQs hrest
  unfold maxLen at hlm hpm hqm
  obtain ⟨lo, hi, op⟩ := r
  unfold RC at HS HA HB ⊢
  dsimp only at HS HA HB ⊢
  cases b with
  | false =>
    rw [Bool.false_and]
    go_enter Tryd.func15, Tryd.ntmps15
    go_wp2_with (go_at_call 57; (with_reducible refine (HS.out _ (by (try show Ex _ _); with_reducible repeat (first | exact ex_refl _ | assumption | refine ex_drewL ?_ | refine ex_appR ?_ _ | refine ex_wx ?_ _ | refine ex_drew ?_ | refine ex_alloc ?_ _))).mono ?_); rintro e w2 ⟨qv, rfl, ⟨X, rfl⟩, hc2⟩; dsimp only)
    refine wp_region_seqA ((w.alloc (.cells #[.string lo, .string hi, .bool op] 24)).alloc (.cells #[I T, I F, .slice pa pn pc, .slice qa qn qc] 27)) [(0, true), (1, true), (2, true), (3, true), (4, true), (6, true), (7, true), (12, true), (5, false), (8, false), (9, false), (10, true), (11, true), (13, false), (14, true), (15, true), (16, false), (17, true)] (by (try show Ex _ _); with_reducible repeat (first | exact ex_refl _ | assumption | refine ex_drewL ?_ | refine ex_appR ?_ _ | refine ex_wx ?_ _ | refine ex_drew ?_ | refine ex_alloc ?_ _)) (by kernel_rfl) (by kernel_rfl) (fun _ _ d _ _ h => by cases d <;> exact h) ?_
    simp only [List.map_cons, List.map_nil, nth]
    repeat (first | ((with_reducible refine wpSeq_look ?_); go_big_quiet_step (fail); (with_reducible refine wpQuiet_nil ?_)) | ((with_reducible refine wpSeq_effF ?_ ?_); (focus rfl); go_simp) | ((with_reducible refine wpSeq_eff ?_ ?_); (focus rfl); (try dsimp only); go_wp2_with ((go_at_call 59; (with_reducible refine (HT.out _ _ _ _ (ClV.ex hc2 (by (try show Ex _ _); with_reducible repeat (first | exact ex_refl _ | assumption | refine ex_drewL ?_ | refine ex_appR ?_ _ | refine ex_wx ?_ _ | refine ex_drew ?_ | refine ex_alloc ?_ _)))).mono ?_); rintro e w3 ⟨sa, sb, rfl, ⟨X3, rfl⟩, hs⟩; obtain ⟨o1, o2⟩ := hs.one; replace hs := Lib.hid hs)); refine mixQ_mk (by (try show Ex _ _); with_reducible repeat (first | exact ex_refl _ | assumption | refine ex_drewL ?_ | refine ex_appR ?_ _ | refine ex_wx ?_ _ | refine ex_drew ?_ | refine ex_alloc ?_ _)) ?_))
    refine wpSeq_nil ?_
    go_wp2
    exact ret_rowV (cs := #[sa, sb]) Tryd.results15 Tryd.underlying37 rfl info_clash rfl (by simp [go_sem]) rfl rfl ⟨_, _, rfl, (by (try show Ex _ _); with_reducible repeat (first | exact ex_refl _ | assumption | refine ex_drewL ?_ | refine ex_appR ?_ _ | refine ex_wx ?_ _ | refine ex_drew ?_ | refine ex_alloc ?_ _)), by have h := hs.out; simp only [wx_wx, wx_drew] at h; exact h.turn (by decide)⟩
  | true =>
    rw [Bool.true_and]
    have HA2 := Lib.hid (HA.out rfl)
    have HB2 := Lib.hid (HB.out rfl)
    clear HA HB
    have tok : True := trivial
    go_enter Tryd.func15, Tryd.ntmps15
    go_wp2_with (go_at_call 57; (with_reducible refine (HS.out _ (by (try show Ex _ _); with_reducible repeat (first | exact ex_refl _ | assumption | refine ex_drewL ?_ | refine ex_appR ?_ _ | refine ex_wx ?_ _ | refine ex_drew ?_ | refine ex_alloc ?_ _))).mono ?_); rintro e w2 ⟨qv, rfl, ⟨X, rfl⟩, hc2⟩; dsimp only)
    refine wp_region_seqA ((w.alloc (.cells #[.string lo, .string hi, .bool op] 24)).alloc (.cells #[I T, I F, .slice pa pn pc, .slice qa qn qc] 27)) [(0, true), (1, true), (2, true), (3, true), (4, true), (6, true), (7, true), (12, true), (5, false), (8, false), (9, false), (10, true), (11, true), (13, false), (14, true), (15, true), (16, false), (17, true)] (by (try show Ex _ _); with_reducible repeat (first | exact ex_refl _ | assumption | refine ex_drewL ?_ | refine ex_appR ?_ _ | refine ex_wx ?_ _ | refine ex_drew ?_ | refine ex_alloc ?_ _)) (by kernel_rfl) (by kernel_rfl) (fun _ _ d _ _ h => by cases d <;> exact h) ?_
    simp only [List.map_cons, List.map_nil, nth]
    repeat (first | ((with_reducible refine wpSeq_look ?_); go_big_quiet_step (fail); (with_reducible refine wpQuiet_nil ?_)) | ((with_reducible refine wpSeq_effF ?_ ?_); (focus rfl); go_simp) | ((with_reducible refine wpSeq_eff ?_ ?_); (focus rfl); (try dsimp only); go_wp2_with (first | (go_at_call 58; have _t := tok; clear tok; (with_reducible refine (HA2.out _ (by (try show Ex _ _); with_reducible repeat (first | exact ex_refl _ | assumption | refine ex_drewL ?_ | refine ex_appR ?_ _ | refine ex_wx ?_ _ | refine ex_drew ?_ | refine ex_alloc ?_ _))).mono ?_); rintro e w2 ⟨v1, rfl, hv1, X1, rfl⟩; (try simp only [wx_wx, wx_drew] at hv1); obtain ⟨a1, c1, rfl, f1, f2, _, f4⟩ := hv1.slg; clear hv1; replace f4 := Lib.hid f4) | (go_at_call 58; (with_reducible refine (HB2.out _ (by (try show Ex _ _); with_reducible repeat (first | exact ex_refl _ | assumption | refine ex_drewL ?_ | refine ex_appR ?_ _ | refine ex_wx ?_ _ | refine ex_drew ?_ | refine ex_alloc ?_ _))).mono ?_); rintro e w2 ⟨v2, rfl, hv2, X2, rfl⟩; (try simp only [wx_wx, wx_drew] at hv2); obtain ⟨a2, c2, rfl, g1, g2, _, g4⟩ := hv2.slg; clear hv2; replace g4 := Lib.hid g4) | (go_at_call 18; (with_reducible refine (HE.out _ _ _ _ _ f1 f2 g1 g2 (f4.out.ex (by (try show Ex _ _); with_reducible repeat (first | exact ex_refl _ | assumption | refine ex_drewL ?_ | refine ex_appR ?_ _ | refine ex_wx ?_ _ | refine ex_drew ?_ | refine ex_alloc ?_ _))) (g4.out.ex (by (try show Ex _ _); with_reducible repeat (first | exact ex_refl _ | assumption | refine ex_drewL ?_ | refine ex_appR ?_ _ | refine ex_wx ?_ _ | refine ex_drew ?_ | refine ex_alloc ?_ _)))).mono ?_); rintro e w2 ⟨rfl, X5, rfl⟩) | (go_at_call 59; (with_reducible refine (HT.out _ _ _ _ (ClV.ex hc2 (by (try show Ex _ _); with_reducible repeat (first | exact ex_refl _ | assumption | refine ex_drewL ?_ | refine ex_appR ?_ _ | refine ex_wx ?_ _ | refine ex_drew ?_ | refine ex_alloc ?_ _)))).mono ?_); rintro e w3 ⟨sa, sb, rfl, ⟨X3, rfl⟩, hs⟩; obtain ⟨o1, o2⟩ := hs.one; replace hs := Lib.hid hs)); refine mixQ_mk (by (try show Ex _ _); with_reducible repeat (first | exact ex_refl _ | assumption | refine ex_drewL ?_ | refine ex_appR ?_ _ | refine ex_wx ?_ _ | refine ex_drew ?_ | refine ex_alloc ?_ _)) ?_))
    refine wpSeq_nil ?_
    go_wp2
    exact ret_rowV (cs := #[sa, sb]) Tryd.results15 Tryd.underlying37 rfl info_clash rfl (by simp [go_sem]) rfl rfl ⟨_, _, rfl, (by (try show Ex _ _); with_reducible repeat (first | exact ex_refl _ | assumption | refine ex_drewL ?_ | refine ex_appR ?_ _ | refine ex_wx ?_ _ | refine ex_drew ?_ | refine ex_alloc ?_ _)), by have h := hs.out; simp only [wx_wx, wx_drew] at h; exact h.turn (by decide)⟩
end Go.Proofs.YtcdocklbpfdmeaaDoor

/- Collide's laws: asked. -/
set_option linter.unusedSimpArgs false
set_option linter.unusedVariables false
set_option linter.unnecessarySimpa false
set_option maxRecDepth 20000
namespace Go.Proofs.YtcdocklbpfdmeaaDoor
open Go.RowKit
theorem info_asked : (Tryd.prog.info? 29).map (·.size) = some 7 := by kernel_rfl
@[go_sem] theorem load_asked (b o : Nat) (w : World) : loadRun Tryd.prog 29 (.pointer (some ⟨b, o, none⟩)) w = match cellsN w b o 7 with | some cs => .ok (.value (.agg cs)) w | none => loadRaw Tryd.prog 29 (.pointer (some ⟨b, o, none⟩)) w := loadRun_row Tryd.underlying29 rfl info_asked b o w
@[go_sem] theorem store_asked (b o : Nat) (vs : Array Value) (w : World) : storeRun Tryd.prog 29 (.pointer (some ⟨b, o, none⟩)) (.agg vs) w = if (vs.size == 7 && (cellsN w b o 7).isSome && !frozenN w b o 7 && oneCells vs) = true then .ok .skip (w.setCells b o vs.toList) else storeRaw Tryd.prog 29 (.pointer (some ⟨b, o, none⟩)) (.agg vs) w := storeRun_row info_asked b o vs w
theorem built_asked (lo hi : ByteArray) (op : Bool) (T F : Int) (pa qa : Option Addr) (pn pc qn qc : Nat) : Tryd.prog.built 29 [(0, .agg #[.string lo, .string hi, .bool op]), (1, .agg #[I T, I F, .slice pa pn pc, .slice qa qn qc])] = some #[.string lo, .string hi, .bool op, I T, I F, .slice pa pn pc, .slice qa qn qc] := by kernel_rfl
@[go_sem] theorem build2g_asked (lo hi : ByteArray) (op : Bool) (T F : Int) (pa qa : Option Addr) (pn pc qn qc : Nat) (w : World) : build2gRun Tryd.prog 29 (.agg #[.string lo, .string hi, .bool op]) (.agg #[I T, I F, .slice pa pn pc, .slice qa qn qc]) w = .ok (.value (.agg #[.string lo, .string hi, .bool op, I T, I F, .slice pa pn pc, .slice qa qn qc])) w := by
  unfold build2gRun
  rw [run_build w _ _ _ (built_asked lo hi op T F pa qa pn pc qn qc)]; rfl
def askR (r : Rg) (T F : Int) (pv qv : Value) : Array Value := #[.string r.lo, .string r.hi, .bool r.op, I T, I F, pv, qv]
/-- The range that is played. -/
def cutR (r : Rg) : Rg := ⟨cutS 201 r.lo, cutS 201 r.hi, r.op⟩
def PostAk (w : World) (r : Rg) (T F : Int) (ps : List Pr) (qs : List Dg) (e : Ending) (w' : World) : Prop := ∃ v1 v2, e = .returned (.agg (askR (cutR r) T F v1 v2)) ∧ OwnP w' w.heap.size v1 (cellsT ps) ∧ OwnD w' w.heap.size v2 (qs.take 12) ∧ ∃ X, w' = wx w X
theorem OwnP.turn {w : World} {X : More} {cs cs' : Array Value} {t : TypeId} {v : Value} {Z : Nat} {l : List Pr} (h : OwnP (wx (w.alloc (.cells cs t)) X) Z v l) (ht : t ≠ 42) : OwnP (wx (w.alloc (.cells cs' t)) X) Z v l :=
  owns_frm h (fun b cs2 fr hb h2 => by
    have hb : b = w.heap.size := hb
    subst hb
    rw [turn_block] at h2
    cases h2
    exact ht rfl) (frm_turn _ _ _ _)
set_option maxHeartbeats 1000000 in
theorem asked_any (r : Rg) (T F : Int) (ps : List Pr) (pa : Option Addr) (pc : Nat) (qs : List Dg) (qa : Option Addr) (qc : Nat) (w : World) (hpc : ps.length ≤ pc) (hpm : pc ≤ maxLen) (hPs : SlP w pa ps) (hqc : qs.length ≤ qc) (hqm : qc ≤ maxLen) (hqn : qa = none → qc = 0) (hQs : SlD w qa qs) :
    Calls Tryd.prog 13 #[.agg (askR r T F (.slice pa ps.length pc) (.slice qa qs.length qc))] w (PostAk w r T F ps qs) := by
  have HR := Lib.hid fun w' (h : Ex w w') => cellsL_any ps pa pc w' hpc hpm (hPs.ex h)
  have HD := Lib.hid fun w' (h : Ex w w') => ids_any qs qa qc w' hqc hqm hqn (hQs.ex h)
  have HX : Hid (r.lo.extract 0 (min (r.lo.size : Int) 201).toNat = cutS 201 r.lo) := Lib.hid (by unfold cutS; congr 1; omega)
  have HY : Hid (r.hi.extract 0 (min (r.hi.size : Int) 201).toNat = cutS 201 r.hi) := Lib.hid (by unfold cutS; congr 1; omega)
  unfold PostAk cutR
  obtain ⟨lo, hi, op⟩ := r
  unfold askR
  dsimp only at HX HY ⊢
  generalize cutS 201 lo = lo2 at HX ⊢
  generalize cutS 201 hi = hi2 at HY ⊢
  generalize ps.length = pn at *
  generalize hqnn : qs.length = qn at *
  clear hPs hQs
  unfold maxLen at hpm hqm
  go_enter Tryd.func13, Tryd.ntmps13
  go_wp2
  refine wp_region_seq [(0, true), (1, true), (2, true), (3, true), (4, true), (5, true), (6, true), (7, true), (8, true), (9, true), (10, true), (11, true), (12, true), (13, true), (14, true), (15, true), (16, true), (17, true), (18, true), (19, true), (20, true), (21, true), (22, false), (23, false)] (by kernel_rfl) (by kernel_rfl) (fun _ _ d _ _ h => by cases d <;> exact h) ?_
  simp only [List.map_cons, List.map_nil, nth]
  repeat (first | ((with_reducible refine wpSeq_look ?_); go_big_quiet_step (fail); (with_reducible refine wpQuiet_nil ?_)) | ((with_reducible refine wpSeq_effF ?_ ?_); (focus rfl); go_simp) | ((with_reducible refine wpSeq_eff ?_ ?_); (focus rfl); (try dsimp only); go_wp2_with (fail); refine mixQ_mk (by (try show Ex _ _); with_reducible repeat (first | exact ex_refl _ | assumption | refine ex_drewL ?_ | refine ex_appR ?_ _ | refine ex_wx ?_ _ | refine ex_drew ?_ | refine ex_alloc ?_ _)) ?_))
  refine wpSeq_nil ?_
  rw [HX.out, HY.out]
  go_wp2
  refine wp_worldC fun B hB => ?_
  have hwB : Ex w B := by rw [← hB]; exact (by (try show Ex _ _); with_reducible repeat (first | exact ex_refl _ | assumption | refine ex_drewL ?_ | refine ex_appR ?_ _ | refine ex_wx ?_ _ | refine ex_drew ?_ | refine ex_alloc ?_ _))
  have c3 : B.cell? ⟨w.heap.size, 3, none⟩ = some (I T) := by rw [← hB]; simp [go_sem]
  have c4 : B.cell? ⟨w.heap.size, 4, none⟩ = some (I F) := by rw [← hB]; simp [go_sem]
  have c5 : B.cell? ⟨w.heap.size, 5, none⟩ = some (.slice pa pn pc) := by rw [← hB]; simp [go_sem]
  have c6 : B.cell? ⟨w.heap.size, 6, none⟩ = some (.slice qa qn qc) := by rw [← hB]; simp [go_sem]
  have d3 : cellsN B (w.heap.size + 1 + 1) 0 3 = some #[.string lo2, .string hi2, .bool op] := by rw [← hB]; simp [go_sem]
  have n2 : cellsN B (w.heap.size + 1) 0 7 = some #[.string ⟨#[]⟩, .string ⟨#[]⟩, .bool false, .int .i64 0, .int .i64 0, .slice none 0 0, .slice none 0 0] := by rw [← hB]; simp [go_sem]
  have f2 : frozenN B (w.heap.size + 1) 0 7 = false := by rw [← hB]; simp [go_sem]
  have z3 : w.heap.size + 1 + 1 < B.heap.size := by rw [← hB]; simp [go_sem]
  have b2 : ∃ cs fr, B.heap[w.heap.size + 1]? = some (.cells cs 29 fr) := by
    refine ⟨#[.string ⟨#[]⟩, .string ⟨#[]⟩, .bool false, .int .i64 0, .int .i64 0, .slice none 0 0, .slice none 0 0], (0, 0), ?_⟩
    rw [← hB]
    refine ex_block (w := (w.alloc (.cells #[.string lo, .string hi, .bool op, I T, I F, .slice pa pn pc, .slice qa qn qc] 29)).alloc (.cells #[.string ⟨#[]⟩, .string ⟨#[]⟩, .bool false, .int .i64 0, .int .i64 0, .slice none 0 0, .slice none 0 0] 29)) (by (try show Ex _ _); with_reducible repeat (first | exact ex_refl _ | assumption | refine ex_drewL ?_ | refine ex_appR ?_ _ | refine ex_wx ?_ _ | refine ex_drew ?_ | refine ex_alloc ?_ _)) ?_
    rw [← World.size_alloc w (.cells #[.string lo, .string hi, .bool op, I T, I F, .slice pa pn pc, .slice qa qn qc] 29)]
    exact heap_alloc_new _ _
  clear hB
  obtain ⟨r3, hr3⟩ : ∃ r, w.heap.size + 1 + 1 = r := ⟨_, rfl⟩
  rw [hr3] at d3 z3 ⊢
  obtain ⟨r2, hr2⟩ : ∃ r, w.heap.size + 1 = r := ⟨_, rfl⟩
  rw [hr2] at n2 f2 b2 ⊢
  obtain ⟨r0, hr0⟩ : ∃ r, w.heap.size = r := ⟨_, rfl⟩
  rw [hr0] at c3 c4 c5 c6 ⊢
  have z2 : r2 < B.heap.size := by omega
  have z0 : r0 < B.heap.size := by omega
  have hle : w.heap.size ≤ r2 := by omega
  have hB2 := Lib.hid b2
  obtain ⟨P, hP⟩ : ∃ P : Nat → Prop, P = fun k => k = r2 := ⟨_, rfl⟩
  have hPr : P r2 := by rw [hP]
  have nP0 : ¬ P r0 := by rw [hP]; intro e; have e : r0 = r2 := e; omega
  have nP3 : ¬ P r3 := by rw [hP]; intro e; have e : r3 = r2 := e; omega
  clear hP hr3 hr2 b2
  refine wp_region_forkH (fun w' => ∃ X, w' = kp B P X) (.look 0 (.look 1 (.look 2 (.look 3 (.look 4 (.look 5 (.look 6 (.look 7 (.look 8 (.look 9 (.look 11 (.look 12 (.look 13 (.eff 10 (.eff 14 (.look 15 (.look 16 (.eff 17 .done)))))))))))))))))) (⟨_, kp_of (fun _ _ _ => rfl)⟩) (by kernel_rfl) (by kernel_rfl) (fun _ _ d _ _ h => by cases d <;> exact h) ?_
  simp only [Fk.ops, nth]
  repeat (first | ((with_reducible refine wpForkH_look ?_); go_big_quiet_step (fail); (try (with_reducible refine wpQuiet_nil ?_))) | (with_reducible refine wpForkH_eff ?_) | ((with_reducible refine effH_F ?_ ?_); (focus rfl); go_simp) | ((with_reducible refine effH_T ?_ ?_); (focus rfl); (try dsimp only); go_wp2_with (first | (go_at_call 12; (with_reducible refine (HR.out _ (ex_trans hwB (by (try show Ex _ _); with_reducible repeat (first | exact ex_refl _ | assumption | refine ex_drewL ?_ | refine ex_appR ?_ _ | refine ex_wx ?_ _ | refine ex_drew ?_ | refine ex_alloc ?_ _)))).mono ?_); rintro e w2 ⟨v2, rfl, hv2, _, X2, rfl⟩; obtain ⟨a2, c2, rfl, _⟩ := hv2.slg; (try simp only [wx_wx, wx_drew] at hv2); replace hv2 := Lib.hid hv2) | (go_at_call 56; (with_reducible refine (HD.out _ (ex_trans hwB (by (try show Ex _ _); with_reducible repeat (first | exact ex_refl _ | assumption | refine ex_drewL ?_ | refine ex_appR ?_ _ | refine ex_wx ?_ _ | refine ex_drew ?_ | refine ex_alloc ?_ _)))).mono ?_); rintro e w3 ⟨v3, rfl, hv3, X3, rfl⟩; obtain ⟨a3, c3', rfl, _⟩ := hv3.slg; (try simp only [wx_wx, wx_drew] at hv3); replace hv3 := Lib.hid hv3)); (first | done | refine mixQH_mk (⟨_, kpF (by repeat (first | (with_reducible exact Frm.refl _ _) | (with_reducible refine Frm.allocR ?_ _) | (with_reducible refine Frm.wxR ?_ _) | (with_reducible refine Frm.drewR ?_) | (with_reducible refine Frm.sets ?_ hPr _ _)))⟩) ?_)))
  all_goals (with_reducible refine wpForkH_nil ?_)
  go_wp2
  have h2 := hv2.out.ex (w' := wx B (X2.app X3)) (by (try show Ex _ _); with_reducible repeat (first | exact ex_refl _ | assumption | refine ex_drewL ?_ | refine ex_appR ?_ _ | refine ex_wx ?_ _ | refine ex_drew ?_ | refine ex_alloc ?_ _))
  have h3 := hv3.out.ex (w' := wx B (X2.app X3)) (by (try show Ex _ _); with_reducible repeat (first | exact ex_refl _ | assumption | refine ex_drewL ?_ | refine ex_appR ?_ _ | refine ex_wx ?_ _ | refine ex_drew ?_ | refine ex_alloc ?_ _))
  simp only [List.length_take, wx_wx, wx_drew, hqnn] at h2 h3
  obtain ⟨bcs, bfr, hbb⟩ := hB2.out
  have hsz := ex_size hwB
  have hbx : (wx B (X2.app X3)).heap[r2]? = some (.cells bcs 29 bfr) := ex_block ⟨_, rfl⟩ hbb
  refine ret_row (cs := #[.string lo2, .string hi2, .bool op, I T, I F, .slice a2 (cellsT ps).length c2, .slice a3 (min 12 qn) c3']) Tryd.results13 Tryd.underlying29 rfl info_asked rfl (by simp [go_sem, n2, f2, z2]) rfl ⟨_, _, rfl, ?_, ?_, ?_⟩
  · have h := owns_frm h2 (fun b cs2 fr hb h => by
      have hb : b = r2 := hb
      subst hb
      rw [hbx] at h
      cases h) (frm_sets (w := wx B (X2.app X3)) (r := r2) 0 [.string lo2, .string hi2, .bool op, I T, I F, .slice a2 (cellsT ps).length c2, .slice a3 (min 12 qn) c3'])
    rw [setCells_wx, if_pos z2] at h
    exact owns_le h (by first | omega | (simp [go_sem]; omega))
  · have h := owns_frm h3 (fun b cs2 fr hb h => by
      have hb : b = r2 := hb
      subst hb
      rw [hbx] at h
      cases h) (frm_sets (w := wx B (X2.app X3)) (r := r2) 0 [.string lo2, .string hi2, .bool op, I T, I F, .slice a2 (cellsT ps).length c2, .slice a3 (min 12 qn) c3'])
    rw [setCells_wx, if_pos z2] at h
    exact owns_le h (by first | omega | (simp [go_sem]; omega))
  · exact ex_wx (ex_setCells hwB hle _ _) _
end Go.Proofs.YtcdocklbpfdmeaaDoor

/- CollideRange: how what is asked opens. -/
set_option linter.unusedSimpArgs false
set_option linter.unusedVariables false
set_option linter.unnecessarySimpa false
set_option maxRecDepth 20000
namespace Go.Proofs.YtcdocklbpfdmeaaDoor
open Go.RowKit Go.ChangeShapes Go.WideShapes Go.ChangeAt
section
variable {H : Type} {enc : TypeId × Value → H} {w : World} {base : Nat} {sp : Nat → Bool} {held : Bool}
theorem casked : Tryd.prog.cellsOf 29 = 7 := by kernel_rfl
theorem span_of_trod {fuel : Nat} {cs : List Value} {x : DataW H × List MemPlace} (h : DataW.trod enc Tryd.prog w base sp held fuel 27 cs = some x) :
    ∃ (t f : Int) (pa : Option Addr) (ps : List Pr) (pc : Nat) (qa : Option Addr) (qs : List Dg) (qc : Nat), cs = [I t, I f, .slice pa ps.length pc, .slice qa qs.length qc] ∧
      ps.length ≤ pc ∧ pc ≤ maxLen ∧ SlP w pa ps ∧ qs.length ≤ qc ∧ qc ≤ maxLen ∧ (qa = none → qc = 0) ∧ SlD w qa qs := by
  obtain ⟨xs, m, _, _, hl, hxl, hel⟩ := DataW.trod_struct Tryd.underlying27 h
  rw [cspan] at hl
  have hxl' : xs.length = 4 := hxl
  have e0 : DataW.trod enc Tryd.prog w base sp held m 3 ((cs.drop 0).take (Tryd.prog.cellsOf 3)) = xs[0]? := hel 0 _ rfl
  have e1 : DataW.trod enc Tryd.prog w base sp held m 3 ((cs.drop 1).take (Tryd.prog.cellsOf 3)) = xs[1]? := hel 1 _ rfl
  have e2 : DataW.trod enc Tryd.prog w base sp held m 22 ((cs.drop 2).take (Tryd.prog.cellsOf 22)) = xs[2]? := hel 2 _ rfl
  have e3 : DataW.trod enc Tryd.prog w base sp held m 25 ((cs.drop 3).take (Tryd.prog.cellsOf 25)) = xs[3]? := hel 3 _ rfl
  rw [c1int] at e0 e1
  rw [c1cells] at e2
  rw [c1ids] at e3
  rw [List.getElem?_eq_getElem (by omega)] at e0 e1 e2 e3
  obtain ⟨t, ht, _⟩ := DataW.trod_int Tryd.underlying3 e0
  obtain ⟨f, hf, _⟩ := DataW.trod_int Tryd.underlying3 e1
  obtain ⟨pa, ps, pc, hp, p1, p2, p3, p4⟩ := cells_of_trod e2
  obtain ⟨qa, qs, qc, hq, q1, q2, q3, q4⟩ := ids_of_trod e3
  obtain ⟨a1, a2, a3, a4, rfl⟩ : ∃ a b c d, cs = [a, b, c, d] := by
    match cs, hl with
    | [a, b, c, d], _ => exact ⟨a, b, c, d, rfl⟩
  simp at ht hf hp hq
  subst ht hf hp hq
  exact ⟨t, f, pa, ps, pc, qa, qs, qc, rfl, p1, p2, p4, q1, q2, q3, q4⟩
end
end Go.Proofs.YtcdocklbpfdmeaaDoor
