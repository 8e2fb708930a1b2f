import Derived.Test.YtcdocklbpfdmeaaDoorMSrA
import Derived.Test.YtcdocklbpfdmeaaDoorMLbA
import Derived.Test.YtcdocklbpfdmeaaDoorMForkH

/- CollideRange: the law. -/
set_option linter.unusedSimpArgs false
set_option linter.unusedVariables false
set_option linter.unnecessarySimpa false
set_option maxRecDepth 20000
namespace Go.Proofs.YtcdocklbpfdmeaaDoor
open Go.RowKit
theorem exit_worldC {K : Act → World → Prop} {Q : Exit → Act → World → Prop} {a : Act} {w : World} (h : ∀ w8, w = w8 → Exit.then K Q .normal a w8) : Exit.then K Q .normal a w := h w rfl
theorem OwnP.kt {w w' : World} {Z : Nat} {v : Value} {l : List Pr} (h : OwnP w Z v l) (k : Kt w w') : OwnP w' Z v l := owns_kt h (by decide) k
theorem Spans_back {w0 : World} (G : Glob w0) {l : List Pr} (hr : rightP l = true) (la : Option Addr) (lc : Nat) (r : Rg) (pa : Option Addr) (pc : Nat) (qa : Option Addr) (qc : Nat) (w : World)
    (hlc : l.length ≤ lc) (hlm : lc ≤ maxLen) (hls : SlP w la l) (hpc : (pairsP l r).length ≤ pc) (hpm : pc ≤ maxLen) (hPs : SlP w pa (pairsP l r)) (hqc : (pathS l r).length ≤ qc) (hqm : qc ≤ maxLen) (hQs : SlD w qa (pathS l r)) (k0 : Ex w0 w) :
    Calls Tryd.prog 14 #[I 256, .slice la l.length lc, .agg (RC r), .agg #[I l.length, I (firstP l r), .slice pa (pairsP l r).length pc, .slice qa (pathS l r).length qc]] w (PostSs w (some (amongL l r))) := by
  have h := Spans_any G 256 l la lc r l.length (firstP l r) (pairsP l r) pa pc (pathS l r) qa qc w hlc hlm hls hpc hpm hPs hqc hqm hQs k0
  rw [spansP_back hr] at h
  exact h
set_option maxHeartbeats 4000000 in
theorem rangeC_any (W : Int) (l0 : List Pr) (a0 : Option Addr) (c0 : Nat) (r0 : Rg) (T F : Int) (ps0 : List Pr) (pa0 : Option Addr) (pc0 : Nat) (qs0 : List Dg) (qa0 : Option Addr) (qc0 : Nat) (w : World) (G : Glob w) (hc : l0.length ≤ c0) (hcm : c0 ≤ maxLen) (hs : SlP w a0 l0) (hpc : ps0.length ≤ pc0) (hpm : pc0 ≤ maxLen) (hPs : SlP w pa0 ps0) (hqc : qs0.length ≤ qc0) (hqm : qc0 ≤ maxLen) (hqn : qa0 = none → qc0 = 0) (hQs : SlD w qa0 qs0) :
    Calls Tryd.prog 3 #[I W, .slice a0 l0.length c0, .agg (askR r0 T F (.slice pa0 ps0.length pc0) (.slice qa0 qs0.length qc0))] w (Post w (.bool true)) := by
  have HWk := Lib.hid fun w' (k : Ex w w') => wakesC_any w' (G.ex k)
  have HC := Lib.hid fun w' (k : Ex w w') => cellsL_any l0 a0 c0 w' hc hcm (hs.ex k)
  have HA := Lib.hid fun w' (k : Ex w w') => asked_any r0 T F ps0 pa0 pc0 qs0 qa0 qc0 w' hpc hpm (hPs.ex k) hqc hqm hqn (hQs.ex k)
  unfold PostAk at HA
  have hsl := cellsT_short l0
  have hsp := cellsT_short ps0
  have hll : (cellsT l0).length ≤ 14 := by unfold cellsT; rw [List.length_map, List.length_take]; omega
  generalize cellsT l0 = lv at HC hsl hll
  generalize cellsT ps0 = ps at HA hsp
  generalize qs0.take 12 = qs at HA
  generalize cutR r0 = R at HA
  generalize l0.length = n0 at *
  generalize ps0.length = pn0 at *
  generalize qs0.length = qn0 at *
  obtain ⟨lo0, hi0, op0⟩ := r0
  unfold askR at HA ⊢
  dsimp only at HA ⊢
  clear hs hPs hQs
  unfold maxLen at hcm hpm hqm
  go_enter Tryd.func3, Tryd.ntmps3
  go_wp2_with (go_at_call 11; (with_reducible refine (HWk.out _ (by (try show Ex _ _); with_reducible repeat (first | exact ex_refl _ | assumption | refine ex_drewL ?_ | refine ex_appR ?_ _ | refine ex_wx ?_ _ | refine ex_drew ?_ | refine ex_alloc ?_ _))).mono ?_); rintro e w2 ⟨rfl, X, rfl⟩)
  refine wp_region_forkK (fun _ => True) (.look 0 (.fork 1 (.eff 2 (.eff 3 (.look 4 (.eff 5 .done)))) 2 (.eff 1 (.eff 3 (.look 4 (.eff 5 .done)))))) (trivial) (by kernel_rfl) (by kernel_rfl) (fun _ _ d _ _ h => by cases d <;> exact h) ?_
  simp only [Fj.ops, nth]
  repeat (first | ((with_reducible refine wpForkK_look ?_); go_big_quiet_step (fail); (try (with_reducible refine wpQuiet_nil ?_))) | (with_reducible refine wpForkK_eff ?_) | ((with_reducible refine effH_F ?_ ?_); (focus rfl); go_simp) | ((with_reducible refine effH_T ?_ ?_); (focus rfl); (try dsimp only); go_wp2_with (first | (go_at_call 12; (with_reducible refine (HC.out _ (by (try show Ex _ _); with_reducible repeat (first | exact ex_refl _ | assumption | refine ex_drewL ?_ | refine ex_appR ?_ _ | refine ex_wx ?_ _ | refine ex_drew ?_ | refine ex_alloc ?_ _))).mono ?_); rintro e w' ⟨v1, rfl, h1, _, X1, rfl⟩; (try simp only [wx_wx, wx_drew] at h1); obtain ⟨la, lc, rfl, _⟩ := h1.slg; replace h1 := Lib.hid h1) | (go_at_call 13; (with_reducible refine (HA.out _ (by (try show Ex _ _); with_reducible repeat (first | exact ex_refl _ | assumption | refine ex_drewL ?_ | refine ex_appR ?_ _ | refine ex_wx ?_ _ | refine ex_drew ?_ | refine ex_alloc ?_ _))).mono ?_); rintro e w' ⟨v2, v3, rfl, h2, h3, X2, rfl⟩; (try simp only [wx_wx, wx_drew] at h2 h3); obtain ⟨pa, pc, rfl, _⟩ := h2.slg; obtain ⟨qa, qc, rfl, _⟩ := h3.slg; replace h2 := Lib.hid h2; replace h3 := Lib.hid h3)); (first | done | refine mixQH_mk (trivial) ?_)))
  all_goals (try (first | (with_reducible refine wpForkK_fork ?_ ?_) | (with_reducible refine wpForkK_three ?_ ?_ ?_)))
  all_goals repeat (first | ((with_reducible refine wpForkK_look ?_); go_big_quiet_step (fail); (try (with_reducible refine wpQuiet_nil ?_))) | (with_reducible refine wpForkK_eff ?_) | ((with_reducible refine effH_F ?_ ?_); (focus rfl); go_simp) | ((with_reducible refine effH_T ?_ ?_); (focus rfl); (try dsimp only); go_wp2_with (first | (go_at_call 12; (with_reducible refine (HC.out _ (by (try show Ex _ _); with_reducible repeat (first | exact ex_refl _ | assumption | refine ex_drewL ?_ | refine ex_appR ?_ _ | refine ex_wx ?_ _ | refine ex_drew ?_ | refine ex_alloc ?_ _))).mono ?_); rintro e w' ⟨v1, rfl, h1, _, X1, rfl⟩; (try simp only [wx_wx, wx_drew] at h1); obtain ⟨la, lc, rfl, _⟩ := h1.slg; replace h1 := Lib.hid h1) | (go_at_call 13; (with_reducible refine (HA.out _ (by (try show Ex _ _); with_reducible repeat (first | exact ex_refl _ | assumption | refine ex_drewL ?_ | refine ex_appR ?_ _ | refine ex_wx ?_ _ | refine ex_drew ?_ | refine ex_alloc ?_ _))).mono ?_); rintro e w' ⟨v2, v3, rfl, h2, h3, X2, rfl⟩; (try simp only [wx_wx, wx_drew] at h2 h3); obtain ⟨pa, pc, rfl, _⟩ := h2.slg; obtain ⟨qa, qc, rfl, _⟩ := h3.slg; replace h2 := Lib.hid h2; replace h3 := Lib.hid h3)); (first | done | refine mixQH_mk (trivial) ?_)))
  all_goals (with_reducible refine wpForkK_nil ?_)
  all_goals
    refine exit_worldC fun B hB => ?_
    have hwB : Hid (Ex w B) := Lib.hid (by rw [← hB]; exact (by (try show Ex _ _); with_reducible repeat (first | exact ex_refl _ | assumption | refine ex_drewL ?_ | refine ex_appR ?_ _ | refine ex_wx ?_ _ | refine ex_drew ?_ | refine ex_alloc ?_ _)))
    have h1B := h1.out.kt (w' := B) (by rw [← hB]; exact (by repeat (first | (with_reducible exact Kt.refl _) | (with_reducible refine Kt.ofSt ?_; ((repeat (first | (with_reducible exact St.refl _) | (with_reducible refine St.wx ?_ _) | (with_reducible refine St.alloc ?_ _) | (with_reducible refine St.turn ?_ (by decide)))); done)) | (with_reducible refine Kt.allocR ?_ _) | (with_reducible refine Kt.appR ?_ _) | (with_reducible refine Kt.wxR ?_ _))))
    have h2B := h2.out.kt (w' := B) (by rw [← hB]; exact (by repeat (first | (with_reducible exact Kt.refl _) | (with_reducible refine Kt.ofSt ?_; ((repeat (first | (with_reducible exact St.refl _) | (with_reducible refine St.wx ?_ _) | (with_reducible refine St.alloc ?_ _) | (with_reducible refine St.turn ?_ (by decide)))); done)) | (with_reducible refine Kt.allocR ?_ _) | (with_reducible refine Kt.appR ?_ _) | (with_reducible refine Kt.wxR ?_ _))))
    have h3B : OwnD B _ _ qs := h3.out.kt (w' := B) (by rw [← hB]; exact (by repeat (first | (with_reducible exact Kt.refl _) | (with_reducible refine Kt.ofSt ?_; ((repeat (first | (with_reducible exact St.refl _) | (with_reducible refine St.wx ?_ _) | (with_reducible refine St.alloc ?_ _) | (with_reducible refine St.turn ?_ (by decide)))); done)) | (with_reducible refine Kt.allocR ?_ _) | (with_reducible refine Kt.appR ?_ _) | (with_reducible refine Kt.wxR ?_ _))))
    have t3 : cellsN B w.heap.size 0 3 = some #[.string R.lo, .string R.hi, .bool R.op] := by rw [← hB]; simp [go_sem]
    have t4 : cellsN B w.heap.size 3 4 = some #[I T, I F, .slice pa ps.length pc, .slice qa qs.length qc] := by rw [← hB]; simp [go_sem]
    have tz : w.heap.size < B.heap.size := by rw [← hB]; simp [go_sem] <;> omega
    clear hB
    obtain ⟨_, _, hv1, l1, l2, l3, l4⟩ := h1B.slg
    cases hv1
    obtain ⟨_, _, hv2, p1, p2, _, p4⟩ := h2B.slg
    cases hv2
    obtain ⟨_, _, hv3, q1, q2, _, q4⟩ := h3B.slg
    cases hv3
    have GB := G.ex hwB.out
    clear h1 h2 h3 h1B h2B h3B HC HA HWk
    have HS := Lib.hid fun (V : Int) w' (k : Ex B w') => Spans_any GB V lv la lc R T F ps pa pc qs qa qc w' l1 l2 (l4.ex k) p1 p2 (p4.ex k) q1 q2 (q4.ex k) k
    have HSp := Lib.hid fun w' (k : Ex B w') => Span_any GB W lv la lc R T F ps pa pc qs qa qc w' l1 l2 (l4.ex k) p1 p2 (p4.ex k) q1 q2 (q4.ex k) k
    have HRt := Lib.hid fun w' (k : Ex B w') => sroot_any GB lv la lc w' k l1 l2 (l4.ex k)
    have HVf := Lib.hid fun w' (k : Ex B w') => verify_any GB (rootP lv) R T F ps qs pa qa pc qc w' k p1 p2 q1 q2 (p4.ex k) (q4.ex k)
    have HPv := Lib.hid fun (hr : rightP lv = true) w' (k : Ex B w') => prove_any GB lv R la lc w' k l1 l2 l3 (l4.ex k) hr
    have HS8' := Lib.hid fun (hr : rightP lv = true) w' pa8 pc8 qa8 qc8 (k : Ex B w') h1 h2 h3 h4 h5 h6 => Spans_back GB hr la lc R pa8 pc8 qa8 qc8 w' l1 l2 (l4.ex k) h1 h2 h3 h4 h5 h6 k
    have HL4 := Lib.hid l4
    obtain ⟨N, hN⟩ : ∃ N, lv.length = N := ⟨_, rfl⟩
    have HN : Hid (lv.length = N) := Lib.hid hN
    unfold PostSs at HS HS8'
    unfold PostClT at HSp
    have F1 := Lib.hid fun x => spansP_is (W := W) (r := R) (T := T) (F := F) (qs := qs) (x := x) hsp hsl
    have F2 := Lib.hid fun y => spansP_so (W := W) (l := lv) (r := R) (T := T) (F := F) (ps := ps) (qs := qs) (y := y)
    have F3 := Lib.hid (spansP_bad (W := W) (l := lv) (r := R) (T := T) (F := F) (ps := ps) (qs := qs))
    have HWd := Lib.hid fun w' => lawWide_any W w'
    have HS1 := Lib.hid fun w' k => HS.out W w' k
    have HS6 : Hid (rightP lv = true → ∀ w', Ex B w' → Calls Tryd.prog 14 _ w' _) := Lib.hid fun hr w' k => by
      have := HS.out 256 w' k
      rw [spansP_ver hr] at this
      exact this
    have HE9 := Lib.hid fun a1 a2 c1 c2 w' h1 h2 h3 h4 h5 h6 => equalC_any (amongL lv R) (amongL lv R) a1 a2 c1 c2 w' h1 h2 h3 h4 h5 h6
    rw [decide_eq_true rfl] at HE9
    have HE7 := Lib.hid fun a1 a2 c1 c2 w' h1 h2 h3 h4 h5 h6 => equalC_any ((verS (rootP lv) R T F ps qs).getD []) ((verS (rootP lv) R T F ps qs).getD []) a1 a2 c1 c2 w' h1 h2 h3 h4 h5 h6
    rw [decide_eq_true rfl] at HE7
    obtain ⟨tb, htb⟩ : ∃ r, w.heap.size = r := ⟨_, rfl⟩
    rw [htb] at t3 t4 tz ⊢
    clear htb
    have t0 : B.cell? ⟨tb, 0, none⟩ = some (.string R.lo) := (cellsN_some.1 t3).2 0 (by decide)
    unfold RC at HS1 HS6 HSp HVf HPv HS8'
    unfold chkP rootR at HRt
    clear HS
    generalize ho1 : spansP W lv R T F ps qs = o1 at HS1 F1 F2 F3
    generalize hsT : spanT W lv R T F ps qs = sT at HSp F1 F2 F3
    have hoL : ∀ y, o1 = some y → y.length ≤ 300 := fun y hy => by
      rw [← ho1] at hy
      unfold spansP at hy
      split at hy
      · rename_i hh
        have := (spans_rest _ _ _ _ _ _ _ hh).2
        have h2 := amongL_len ps R
        rw [Option.some.inj hy] at h2
        omega
      · cases hy
    clear ho1 hsT
    generalize verS (rootP lv) R T F ps qs = o2 at HS6 HVf HE7
    simp only [hN] at l1 HS1 HS6 HSp HVf HPv HS8' HRt hll ⊢
    clear hN
    cases sT with
    | some x =>
      obtain ⟨hx0, hx1, hx2, hx3, hx4⟩ := F1.out x rfl
      obtain ⟨y, rfl⟩ : ∃ y, o1 = some y := Option.isSome_iff_exists.1 hx0
      have HIs : Hid (∀ w' sa sb, Ex B w' → ClS w' sa sb (some x) → Calls Tryd.prog 16 #[I W, .agg #[sa, sb]] w' (Post w' (.bool true))) := Lib.hid fun w' sa sb k h => by
        have := wis_any GB W k h.1.slt h.2.slt (by omega) (by omega)
        rwa [hx1] at this
      have hr : rightP lv = true := by
        cases hh : rightP lv with
        | true => rfl
        | false => exact absurd (F3.out hh).1 (by simp)
      have hW : wideB W = true := hx4
      rw [hW] at HWd
      clear hx0 hx1 hx2 hx3 hx4
      simp only [Option.getD_some, Option.isSome_some] at HS1
      go_wp2_with (first | (go_at_call 14; (with_reducible refine (HS1.out _ (by (try show Ex _ _); with_reducible repeat (first | exact ex_refl _ | assumption | refine ex_drewL ?_ | refine ex_appR ?_ _ | refine ex_wx ?_ _ | refine ex_drew ?_ | refine ex_alloc ?_ _))).mono ?_); rintro e w' ⟨v5, rfl, h5, X20, rfl⟩; (try simp only [wx_wx, wx_drew] at h5); obtain ⟨a5, c5, rfl, f51, f52, _, f54⟩ := h5.slg; clear h5; replace f54 := Lib.hid f54) | (go_at_call 15; (with_reducible refine (HSp.out _ (by (try show Ex _ _); with_reducible repeat (first | exact ex_refl _ | assumption | refine ex_drewL ?_ | refine ex_appR ?_ _ | refine ex_wx ?_ _ | refine ex_drew ?_ | refine ex_alloc ?_ _))).mono ?_); rintro e w' ⟨sa, sb, rfl, ⟨X5, rfl⟩, hcs⟩; (try simp only [wx_wx, wx_drew] at hcs); obtain ⟨s1, s2⟩ := hcs.one; replace hcs := Lib.hid hcs) | (go_at_call 16; (with_reducible refine (HIs.out _ _ _ (by (try show Ex _ _); with_reducible repeat (first | exact ex_refl _ | assumption | refine ex_drewL ?_ | refine ex_appR ?_ _ | refine ex_wx ?_ _ | refine ex_drew ?_ | refine ex_alloc ?_ _)) (hcs.out.ex (by (try show Ex _ _); with_reducible repeat (first | exact ex_refl _ | assumption | refine ex_drewL ?_ | refine ex_appR ?_ _ | refine ex_wx ?_ _ | refine ex_drew ?_ | refine ex_alloc ?_ _)))).mono ?_); rintro e w' ⟨rfl, X5b, rfl⟩))
      refine wp_worldC fun C hC => ?_
      have hBC : Ex B C := by rw [← hC]; exact (by (try show Ex _ _); with_reducible repeat (first | exact ex_refl _ | assumption | refine ex_drewL ?_ | refine ex_appR ?_ _ | refine ex_wx ?_ _ | refine ex_drew ?_ | refine ex_alloc ?_ _))
      have hwC : Hid (Ex w C) := Lib.hid (ex_trans hwB.out hBC)
      replace f54 := Lib.hid (f54.out.ex (w' := C) (by rw [← hC]; exact (by (try show Ex _ _); with_reducible repeat (first | exact ex_refl _ | assumption | refine ex_drewL ?_ | refine ex_appR ?_ _ | refine ex_wx ?_ _ | refine ex_drew ?_ | refine ex_alloc ?_ _))))
      replace t3 := cellsN_exF t3 tz hBC
      replace t4 := cellsN_exF t4 tz hBC
      replace t0 := (cellsN_some.1 t3).2 0 (by decide)
      replace tz := Nat.lt_of_lt_of_le tz (ex_size hBC)
      clear hC
      replace HL4 := Lib.hid (HL4.out.ex hBC)
      replace HRt := Lib.hid fun w' (k : Ex C w') => HRt.out w' (ex_trans hBC k)
      replace HVf := Lib.hid fun w' (k : Ex C w') => HVf.out w' (ex_trans hBC k)
      replace HPv := Lib.hid fun hr w' (k : Ex C w') => HPv.out hr w' (ex_trans hBC k)
      replace HS6 := Lib.hid fun hr w' (k : Ex C w') => HS6.out hr w' (ex_trans hBC k)
      replace HS8' := Lib.hid fun hr w' pa8 pc8 qa8 qc8 (k : Ex C w') => HS8'.out hr w' pa8 pc8 qa8 qc8 (ex_trans hBC k)
      clear HS1 HSp
      go_loopw [11, 57] (fun v i W' => ∃ k : Nat, k ≤ N ∧ i = I k ∧ Hid (OwnP W' C.heap.size v (amongL (lv.take k) R)) ∧ Ex C W') (fun _ i _ => N - (intOf i).toNat)
      case atStart => exact ⟨0, by omega, rfl, Lib.hid (ownp_nil _ _), (by (try show Ex _ _); with_reducible repeat (first | exact ex_refl _ | assumption | refine ex_drewL ?_ | refine ex_appR ?_ _ | refine ex_wx ?_ _ | refine ex_drew ?_ | refine ex_alloc ?_ _))⟩
      case round =>
        obtain ⟨k, hk, rfl, HO, ⟨X6, rfl⟩⟩ := hrel
        by_cases hlt : k < N
        · obtain ⟨g, off, hla, hg, hcell⟩ := HL4.out.pos (by rw [HN.out]; omega)
          cases hla
          obtain ⟨⟨x, y⟩, hxy⟩ : ∃ p, lv[k]? = some p := ⟨_, List.getElem?_eq_getElem (by rw [HN.out]; omega)⟩
          have hc1 : cellsN C g (off + k * 2) 2 = some #[.string x, .string y] := hcell k _ hxy
          have hl0 : ((amongL (lv.take k) R).length) ≤ k := Nat.le_trans (amongL_len _ _) (by rw [List.length_take]; omega)
          have HI := Lib.hid (fun w' => in_any R x w')
          unfold RC at HI
          have HT : Hid (amongL (lv.take (k + 1)) R = amongL (lv.take k) R ++ (if inP R x then [(x, y)] else [])) := Lib.hid (by
            obtain ⟨h1, h2⟩ := List.getElem?_eq_some_iff.1 hxy
            unfold amongL
            rw [List.take_succ_eq_append_getElem h1, List.filter_append, h2, List.filter_cons, List.filter_nil])
          generalize inP R x = b at HI HT
          clear hcell hxy
          cases b with
          | false =>
            have HT2 : Hid (amongL (lv.take (k + 1)) R = amongL (lv.take k) R) := Lib.hid (by have := HT.out; simpa using this)
            go_wp2_with (go_at_call 17; (with_reducible refine (HI.out _).mono ?_); rintro e w2 ⟨rfl, X3, rfl⟩)
            exact ⟨⟨k + 1, by omega, by go_num, Lib.hid (by rw [HT2.out]; exact HO.out.ex (by (try show Ex _ _); with_reducible repeat (first | exact ex_refl _ | assumption | refine ex_drewL ?_ | refine ex_appR ?_ _ | refine ex_wx ?_ _ | refine ex_drew ?_ | refine ex_alloc ?_ _))), (by (try show Ex _ _); with_reducible repeat (first | exact ex_refl _ | assumption | refine ex_drewL ?_ | refine ex_appR ?_ _ | refine ex_wx ?_ _ | refine ex_drew ?_ | refine ex_alloc ?_ _))⟩, by simp [intOf]; omega⟩
          | true =>
            have HT2 : Hid (amongL (lv.take (k + 1)) R = amongL (lv.take k) R ++ [(x, y)]) := Lib.hid (by have := HT.out; simpa using this)
            have hsl1 := Lib.hid (fun (w0 : World) w' (gg : Nat) (k' : Ex (w0.alloc (.cells #[.string x, .string y] 42)) w') (hgg : gg = w0.heap.size) => slp_oneF (x, y) k' hgg)
            go_wp2_with (first | (go_at_call 17; (with_reducible refine (HI.out _).mono ?_); rintro e w2 ⟨rfl, X3, rfl⟩) | (at_builtin; refine wpAppP (r := [(x, y)]) _ _ rfl rfl (HO.out.ex (by (try show Ex _ _); with_reducible repeat (first | exact ex_refl _ | assumption | refine ex_drewL ?_ | refine ex_appR ?_ _ | refine ex_wx ?_ _ | refine ex_drew ?_ | refine ex_alloc ?_ _))) rfl rfl rfl (hsl1.out _ _ _ (by (try show Ex _ _); with_reducible repeat (first | exact ex_refl _ | assumption | refine ex_drewL ?_ | refine ex_appR ?_ _ | refine ex_wx ?_ _ | refine ex_drew ?_ | refine ex_alloc ?_ _)) (by simp [go_sem])) (by simp only [List.length_singleton]; omega) (by simp [go_sem] <;> omega) (fun v1 w1 hown1 hbe => ?_); obtain ⟨X8, rfl⟩ := exOf (A := C) (by (try show Ex _ _); with_reducible repeat (first | exact ex_refl _ | assumption | refine ex_drewL ?_ | refine ex_appR ?_ _ | refine ex_wx ?_ _ | refine ex_drew ?_ | refine ex_alloc ?_ _)) hbe; rw [← HT2.out] at hown1; replace hown1 := Lib.hid hown1))
            exact ⟨⟨k + 1, by omega, by go_num, hown1, (by (try show Ex _ _); with_reducible repeat (first | exact ex_refl _ | assumption | refine ex_drewL ?_ | refine ex_appR ?_ _ | refine ex_wx ?_ _ | refine ex_drew ?_ | refine ex_alloc ?_ _))⟩, by simp [intOf]; omega⟩
        · obtain rfl : k = N := by omega
          have HO2 := HO.out
          rw [List.take_of_length_le (Nat.le_of_eq HN.out)] at HO2
          obtain ⟨ia, ic, hiv, hin1, hin2, _, hin4'⟩ := HO2.slg
          subst hiv
          have hin4 := Lib.hid hin4'
          clear hlt hk HO HO2 hin4'
          have hr2 := hr
          have HPv2 := Lib.hid (HPv.out hr)
          have HS8 := Lib.hid (HS8'.out hr)
          have HS62 := HS6.out hr
          clear HS6
          have HS6 := Lib.hid HS62
          clear HS62
          simp only [if_pos hr] at HRt
          clear hr2 HPv HS8' F1 F2 F3
          go_wp2_with (first | (go_at_call 18; (with_reducible refine (HE1.out _ _ _ _ _ f51 f52 hin1 hin2 (f54.out.ex (by (try show Ex _ _); with_reducible repeat (first | exact ex_refl _ | assumption | refine ex_drewL ?_ | refine ex_appR ?_ _ | refine ex_wx ?_ _ | refine ex_drew ?_ | refine ex_alloc ?_ _))) (hin4.out.ex (by (try show Ex _ _); with_reducible repeat (first | exact ex_refl _ | assumption | refine ex_drewL ?_ | refine ex_appR ?_ _ | refine ex_wx ?_ _ | refine ex_drew ?_ | refine ex_alloc ?_ _)))).mono ?_); rintro e w' ⟨rfl, X30, rfl⟩) | (go_at_call 19; (with_reducible refine (HRt.out _ (by (try show Ex _ _); with_reducible repeat (first | exact ex_refl _ | assumption | refine ex_drewL ?_ | refine ex_appR ?_ _ | refine ex_wx ?_ _ | refine ex_drew ?_ | refine ex_alloc ?_ _))).mono ?_); rintro e w' ⟨rfl, X31, rfl⟩))
          have tokS : True := trivial
          have tokE : True := trivial
          cases o2 with
          | none =>
            simp only [errV, Option.getD_some, Option.getD_none, Option.isSome_some, Option.isSome_none, List.length_nil] at HVf HS6 HE7
            go_wp2_with (first | (go_at_call 14; have _t := tokS; clear tokS; (with_reducible refine (HS6.out _ (by (try show Ex _ _); with_reducible repeat (first | exact ex_refl _ | assumption | refine ex_drewL ?_ | refine ex_appR ?_ _ | refine ex_wx ?_ _ | refine ex_drew ?_ | refine ex_alloc ?_ _))).mono ?_); rintro e w' ⟨v6, rfl, h6, X21, rfl⟩; (try simp only [wx_wx, wx_drew] at h6); obtain ⟨a6, c6, rfl, f61, f62, _, f64⟩ := h6.slg; clear h6; (try simp only [List.length_nil] at f61); replace f64 := Lib.hid f64) | (go_at_call 20; (with_reducible refine (HVf.out _ (by (try show Ex _ _); with_reducible repeat (first | exact ex_refl _ | assumption | refine ex_drewL ?_ | refine ex_appR ?_ _ | refine ex_wx ?_ _ | refine ex_drew ?_ | refine ex_alloc ?_ _))).mono ?_); rintro e w' ⟨v7, rfl, h7, X22, rfl⟩; (try simp only [wx_wx, wx_drew] at h7); obtain ⟨a7, c7, rfl, f71, f72, _, f74⟩ := h7.slg; clear h7; (try simp only [List.length_nil] at f71); replace f74 := Lib.hid f74) | (go_at_call 18; have _t := tokE; clear tokE; (with_reducible refine (HE7.out _ _ _ _ _ f61 f62 f71 f72 (f64.out.ex (by (try show Ex _ _); with_reducible repeat (first | exact ex_refl _ | assumption | refine ex_drewL ?_ | refine ex_appR ?_ _ | refine ex_wx ?_ _ | refine ex_drew ?_ | refine ex_alloc ?_ _))) (f74.out.ex (by (try show Ex _ _); with_reducible repeat (first | exact ex_refl _ | assumption | refine ex_drewL ?_ | refine ex_appR ?_ _ | refine ex_wx ?_ _ | refine ex_drew ?_ | refine ex_alloc ?_ _)))).mono ?_); rintro e w' ⟨rfl, X23, rfl⟩) | (go_at_call 21; (with_reducible refine (HPv2.out _ (by (try show Ex _ _); with_reducible repeat (first | exact ex_refl _ | assumption | refine ex_drewL ?_ | refine ex_appR ?_ _ | refine ex_wx ?_ _ | refine ex_drew ?_ | refine ex_alloc ?_ _))).mono ?_); rintro e w' ⟨pa8, pc8, qa8, qc8, rfl, ⟨g1, g2, g3, g4⟩, ⟨g5, g6, g7, g8⟩, X24, rfl⟩; (try simp only [wx_wx, wx_drew] at g4 g8); replace g4 := Lib.hid g4; replace g8 := Lib.hid g8) | (go_at_call 14; (with_reducible refine (HS8.out _ _ _ _ _ (by (try show Ex _ _); with_reducible repeat (first | exact ex_refl _ | assumption | refine ex_drewL ?_ | refine ex_appR ?_ _ | refine ex_wx ?_ _ | refine ex_drew ?_ | refine ex_alloc ?_ _)) g1 g2 (g4.out.ex (by (try show Ex _ _); with_reducible repeat (first | exact ex_refl _ | assumption | refine ex_drewL ?_ | refine ex_appR ?_ _ | refine ex_wx ?_ _ | refine ex_drew ?_ | refine ex_alloc ?_ _))) g5 g6 (g8.out.ex (by (try show Ex _ _); with_reducible repeat (first | exact ex_refl _ | assumption | refine ex_drewL ?_ | refine ex_appR ?_ _ | refine ex_wx ?_ _ | refine ex_drew ?_ | refine ex_alloc ?_ _)))).mono ?_); rintro e w' ⟨v9, rfl, h9, X25, rfl⟩; (try simp only [wx_wx, wx_drew] at h9); obtain ⟨a9, c9, rfl, f91, f92, _, f94⟩ := h9.slg; clear h9; replace f94 := Lib.hid f94) | (go_at_call 18; (with_reducible refine (HE9.out _ _ _ _ _ f91 f92 hin1 hin2 (f94.out.ex (by (try show Ex _ _); with_reducible repeat (first | exact ex_refl _ | assumption | refine ex_drewL ?_ | refine ex_appR ?_ _ | refine ex_wx ?_ _ | refine ex_drew ?_ | refine ex_alloc ?_ _))) (hin4.out.ex (by (try show Ex _ _); with_reducible repeat (first | exact ex_refl _ | assumption | refine ex_drewL ?_ | refine ex_appR ?_ _ | refine ex_wx ?_ _ | refine ex_drew ?_ | refine ex_alloc ?_ _)))).mono ?_); rintro e w' ⟨rfl, X26, rfl⟩) | (go_at_call 22; (with_reducible refine (HWd.out _).mono ?_); rintro e w' ⟨rfl, X27, rfl⟩))
            go_ret
            exact post_mk rfl (ex_trans hwC.out (by (try show Ex _ _); with_reducible repeat (first | exact ex_refl _ | assumption | refine ex_drewL ?_ | refine ex_appR ?_ _ | refine ex_wx ?_ _ | refine ex_drew ?_ | refine ex_alloc ?_ _)))
          | some z =>
            simp only [errV, Option.getD_some, Option.getD_none, Option.isSome_some, Option.isSome_none, List.length_nil] at HVf HS6 HE7
            go_wp2_with (first | (go_at_call 14; have _t := tokS; clear tokS; (with_reducible refine (HS6.out _ (by (try show Ex _ _); with_reducible repeat (first | exact ex_refl _ | assumption | refine ex_drewL ?_ | refine ex_appR ?_ _ | refine ex_wx ?_ _ | refine ex_drew ?_ | refine ex_alloc ?_ _))).mono ?_); rintro e w' ⟨v6, rfl, h6, X21, rfl⟩; (try simp only [wx_wx, wx_drew] at h6); obtain ⟨a6, c6, rfl, f61, f62, _, f64⟩ := h6.slg; clear h6; (try simp only [List.length_nil] at f61); replace f64 := Lib.hid f64) | (go_at_call 20; (with_reducible refine (HVf.out _ (by (try show Ex _ _); with_reducible repeat (first | exact ex_refl _ | assumption | refine ex_drewL ?_ | refine ex_appR ?_ _ | refine ex_wx ?_ _ | refine ex_drew ?_ | refine ex_alloc ?_ _))).mono ?_); rintro e w' ⟨v7, rfl, h7, X22, rfl⟩; (try simp only [wx_wx, wx_drew] at h7); obtain ⟨a7, c7, rfl, f71, f72, _, f74⟩ := h7.slg; clear h7; (try simp only [List.length_nil] at f71); replace f74 := Lib.hid f74) | (go_at_call 18; have _t := tokE; clear tokE; (with_reducible refine (HE7.out _ _ _ _ _ f61 f62 f71 f72 (f64.out.ex (by (try show Ex _ _); with_reducible repeat (first | exact ex_refl _ | assumption | refine ex_drewL ?_ | refine ex_appR ?_ _ | refine ex_wx ?_ _ | refine ex_drew ?_ | refine ex_alloc ?_ _))) (f74.out.ex (by (try show Ex _ _); with_reducible repeat (first | exact ex_refl _ | assumption | refine ex_drewL ?_ | refine ex_appR ?_ _ | refine ex_wx ?_ _ | refine ex_drew ?_ | refine ex_alloc ?_ _)))).mono ?_); rintro e w' ⟨rfl, X23, rfl⟩) | (go_at_call 21; (with_reducible refine (HPv2.out _ (by (try show Ex _ _); with_reducible repeat (first | exact ex_refl _ | assumption | refine ex_drewL ?_ | refine ex_appR ?_ _ | refine ex_wx ?_ _ | refine ex_drew ?_ | refine ex_alloc ?_ _))).mono ?_); rintro e w' ⟨pa8, pc8, qa8, qc8, rfl, ⟨g1, g2, g3, g4⟩, ⟨g5, g6, g7, g8⟩, X24, rfl⟩; (try simp only [wx_wx, wx_drew] at g4 g8); replace g4 := Lib.hid g4; replace g8 := Lib.hid g8) | (go_at_call 14; (with_reducible refine (HS8.out _ _ _ _ _ (by (try show Ex _ _); with_reducible repeat (first | exact ex_refl _ | assumption | refine ex_drewL ?_ | refine ex_appR ?_ _ | refine ex_wx ?_ _ | refine ex_drew ?_ | refine ex_alloc ?_ _)) g1 g2 (g4.out.ex (by (try show Ex _ _); with_reducible repeat (first | exact ex_refl _ | assumption | refine ex_drewL ?_ | refine ex_appR ?_ _ | refine ex_wx ?_ _ | refine ex_drew ?_ | refine ex_alloc ?_ _))) g5 g6 (g8.out.ex (by (try show Ex _ _); with_reducible repeat (first | exact ex_refl _ | assumption | refine ex_drewL ?_ | refine ex_appR ?_ _ | refine ex_wx ?_ _ | refine ex_drew ?_ | refine ex_alloc ?_ _)))).mono ?_); rintro e w' ⟨v9, rfl, h9, X25, rfl⟩; (try simp only [wx_wx, wx_drew] at h9); obtain ⟨a9, c9, rfl, f91, f92, _, f94⟩ := h9.slg; clear h9; replace f94 := Lib.hid f94) | (go_at_call 18; (with_reducible refine (HE9.out _ _ _ _ _ f91 f92 hin1 hin2 (f94.out.ex (by (try show Ex _ _); with_reducible repeat (first | exact ex_refl _ | assumption | refine ex_drewL ?_ | refine ex_appR ?_ _ | refine ex_wx ?_ _ | refine ex_drew ?_ | refine ex_alloc ?_ _))) (hin4.out.ex (by (try show Ex _ _); with_reducible repeat (first | exact ex_refl _ | assumption | refine ex_drewL ?_ | refine ex_appR ?_ _ | refine ex_wx ?_ _ | refine ex_drew ?_ | refine ex_alloc ?_ _)))).mono ?_); rintro e w' ⟨rfl, X26, rfl⟩) | (go_at_call 22; (with_reducible refine (HWd.out _).mono ?_); rintro e w' ⟨rfl, X27, rfl⟩))
            go_ret
            exact post_mk rfl (ex_trans hwC.out (by (try show Ex _ _); with_reducible repeat (first | exact ex_refl _ | assumption | refine ex_drewL ?_ | refine ex_appR ?_ _ | refine ex_wx ?_ _ | refine ex_drew ?_ | refine ex_alloc ?_ _)))
    | none =>
      cases o1 with
      | some y =>
        have hr : rightP lv = true := by
          cases hh : rightP lv with
          | true => rfl
          | false => exact absurd (F3.out hh).1 (by simp)
        obtain rfl : y = amongL lv R := F2.out y rfl rfl
        have HE1 := HE9
        simp only [Option.getD_some, Option.isSome_some] at HS1
        generalize wideB W = b at HWd
        cases b with
        | false =>
          go_wp2_with (first | (go_at_call 14; (with_reducible refine (HS1.out _ (by (try show Ex _ _); with_reducible repeat (first | exact ex_refl _ | assumption | refine ex_drewL ?_ | refine ex_appR ?_ _ | refine ex_wx ?_ _ | refine ex_drew ?_ | refine ex_alloc ?_ _))).mono ?_); rintro e w' ⟨v5, rfl, h5, X20, rfl⟩; (try simp only [wx_wx, wx_drew] at h5); obtain ⟨a5, c5, rfl, f51, f52, _, f54⟩ := h5.slg; clear h5; replace f54 := Lib.hid f54) | (go_at_call 15; (with_reducible refine (HSp.out _ (by (try show Ex _ _); with_reducible repeat (first | exact ex_refl _ | assumption | refine ex_drewL ?_ | refine ex_appR ?_ _ | refine ex_wx ?_ _ | refine ex_drew ?_ | refine ex_alloc ?_ _))).mono ?_); rintro e w' ⟨sa, sb, rfl, ⟨X5, rfl⟩, hcs⟩; (try simp only [wx_wx, wx_drew] at hcs); obtain ⟨s1, s2⟩ := hcs.one; replace hcs := Lib.hid hcs) | (go_at_call 16; (with_reducible refine (HIs.out _ _ _ (by (try show Ex _ _); with_reducible repeat (first | exact ex_refl _ | assumption | refine ex_drewL ?_ | refine ex_appR ?_ _ | refine ex_wx ?_ _ | refine ex_drew ?_ | refine ex_alloc ?_ _)) (hcs.out.ex (by (try show Ex _ _); with_reducible repeat (first | exact ex_refl _ | assumption | refine ex_drewL ?_ | refine ex_appR ?_ _ | refine ex_wx ?_ _ | refine ex_drew ?_ | refine ex_alloc ?_ _)))).mono ?_); rintro e w' ⟨rfl, X5b, rfl⟩))
          refine wp_worldC fun C hC => ?_
          have hBC : Ex B C := by rw [← hC]; exact (by (try show Ex _ _); with_reducible repeat (first | exact ex_refl _ | assumption | refine ex_drewL ?_ | refine ex_appR ?_ _ | refine ex_wx ?_ _ | refine ex_drew ?_ | refine ex_alloc ?_ _))
          have hwC : Hid (Ex w C) := Lib.hid (ex_trans hwB.out hBC)
          replace f54 := Lib.hid (f54.out.ex (w' := C) (by rw [← hC]; exact (by (try show Ex _ _); with_reducible repeat (first | exact ex_refl _ | assumption | refine ex_drewL ?_ | refine ex_appR ?_ _ | refine ex_wx ?_ _ | refine ex_drew ?_ | refine ex_alloc ?_ _))))
          replace t3 := cellsN_exF t3 tz hBC
          replace t4 := cellsN_exF t4 tz hBC
          replace t0 := (cellsN_some.1 t3).2 0 (by decide)
          replace tz := Nat.lt_of_lt_of_le tz (ex_size hBC)
          clear hC
          replace HL4 := Lib.hid (HL4.out.ex hBC)
          replace HRt := Lib.hid fun w' (k : Ex C w') => HRt.out w' (ex_trans hBC k)
          replace HVf := Lib.hid fun w' (k : Ex C w') => HVf.out w' (ex_trans hBC k)
          replace HPv := Lib.hid fun hr w' (k : Ex C w') => HPv.out hr w' (ex_trans hBC k)
          replace HS6 := Lib.hid fun hr w' (k : Ex C w') => HS6.out hr w' (ex_trans hBC k)
          replace HS8' := Lib.hid fun hr w' pa8 pc8 qa8 qc8 (k : Ex C w') => HS8'.out hr w' pa8 pc8 qa8 qc8 (ex_trans hBC k)
          clear HS1 HSp
          go_loopw [11, 57] (fun v i W' => ∃ k : Nat, k ≤ N ∧ i = I k ∧ Hid (OwnP W' C.heap.size v (amongL (lv.take k) R)) ∧ Ex C W') (fun _ i _ => N - (intOf i).toNat)
          case atStart => exact ⟨0, by omega, rfl, Lib.hid (ownp_nil _ _), (by (try show Ex _ _); with_reducible repeat (first | exact ex_refl _ | assumption | refine ex_drewL ?_ | refine ex_appR ?_ _ | refine ex_wx ?_ _ | refine ex_drew ?_ | refine ex_alloc ?_ _))⟩
          case round =>
            obtain ⟨k, hk, rfl, HO, ⟨X6, rfl⟩⟩ := hrel
            by_cases hlt : k < N
            · obtain ⟨g, off, hla, hg, hcell⟩ := HL4.out.pos (by rw [HN.out]; omega)
              cases hla
              obtain ⟨⟨x, y⟩, hxy⟩ : ∃ p, lv[k]? = some p := ⟨_, List.getElem?_eq_getElem (by rw [HN.out]; omega)⟩
              have hc1 : cellsN C g (off + k * 2) 2 = some #[.string x, .string y] := hcell k _ hxy
              have hl0 : ((amongL (lv.take k) R).length) ≤ k := Nat.le_trans (amongL_len _ _) (by rw [List.length_take]; omega)
              have HI := Lib.hid (fun w' => in_any R x w')
              unfold RC at HI
              have HT : Hid (amongL (lv.take (k + 1)) R = amongL (lv.take k) R ++ (if inP R x then [(x, y)] else [])) := Lib.hid (by
                obtain ⟨h1, h2⟩ := List.getElem?_eq_some_iff.1 hxy
                unfold amongL
                rw [List.take_succ_eq_append_getElem h1, List.filter_append, h2, List.filter_cons, List.filter_nil])
              generalize inP R x = b at HI HT
              clear hcell hxy
              cases b with
              | false =>
                have HT2 : Hid (amongL (lv.take (k + 1)) R = amongL (lv.take k) R) := Lib.hid (by have := HT.out; simpa using this)
                go_wp2_with (go_at_call 17; (with_reducible refine (HI.out _).mono ?_); rintro e w2 ⟨rfl, X3, rfl⟩)
                exact ⟨⟨k + 1, by omega, by go_num, Lib.hid (by rw [HT2.out]; exact HO.out.ex (by (try show Ex _ _); with_reducible repeat (first | exact ex_refl _ | assumption | refine ex_drewL ?_ | refine ex_appR ?_ _ | refine ex_wx ?_ _ | refine ex_drew ?_ | refine ex_alloc ?_ _))), (by (try show Ex _ _); with_reducible repeat (first | exact ex_refl _ | assumption | refine ex_drewL ?_ | refine ex_appR ?_ _ | refine ex_wx ?_ _ | refine ex_drew ?_ | refine ex_alloc ?_ _))⟩, by simp [intOf]; omega⟩
              | true =>
                have HT2 : Hid (amongL (lv.take (k + 1)) R = amongL (lv.take k) R ++ [(x, y)]) := Lib.hid (by have := HT.out; simpa using this)
                have hsl1 := Lib.hid (fun (w0 : World) w' (gg : Nat) (k' : Ex (w0.alloc (.cells #[.string x, .string y] 42)) w') (hgg : gg = w0.heap.size) => slp_oneF (x, y) k' hgg)
                go_wp2_with (first | (go_at_call 17; (with_reducible refine (HI.out _).mono ?_); rintro e w2 ⟨rfl, X3, rfl⟩) | (at_builtin; refine wpAppP (r := [(x, y)]) _ _ rfl rfl (HO.out.ex (by (try show Ex _ _); with_reducible repeat (first | exact ex_refl _ | assumption | refine ex_drewL ?_ | refine ex_appR ?_ _ | refine ex_wx ?_ _ | refine ex_drew ?_ | refine ex_alloc ?_ _))) rfl rfl rfl (hsl1.out _ _ _ (by (try show Ex _ _); with_reducible repeat (first | exact ex_refl _ | assumption | refine ex_drewL ?_ | refine ex_appR ?_ _ | refine ex_wx ?_ _ | refine ex_drew ?_ | refine ex_alloc ?_ _)) (by simp [go_sem])) (by simp only [List.length_singleton]; omega) (by simp [go_sem] <;> omega) (fun v1 w1 hown1 hbe => ?_); obtain ⟨X8, rfl⟩ := exOf (A := C) (by (try show Ex _ _); with_reducible repeat (first | exact ex_refl _ | assumption | refine ex_drewL ?_ | refine ex_appR ?_ _ | refine ex_wx ?_ _ | refine ex_drew ?_ | refine ex_alloc ?_ _)) hbe; rw [← HT2.out] at hown1; replace hown1 := Lib.hid hown1))
                exact ⟨⟨k + 1, by omega, by go_num, hown1, (by (try show Ex _ _); with_reducible repeat (first | exact ex_refl _ | assumption | refine ex_drewL ?_ | refine ex_appR ?_ _ | refine ex_wx ?_ _ | refine ex_drew ?_ | refine ex_alloc ?_ _))⟩, by simp [intOf]; omega⟩
            · obtain rfl : k = N := by omega
              have HO2 := HO.out
              rw [List.take_of_length_le (Nat.le_of_eq HN.out)] at HO2
              obtain ⟨ia, ic, hiv, hin1, hin2, _, hin4'⟩ := HO2.slg
              subst hiv
              have hin4 := Lib.hid hin4'
              clear hlt hk HO HO2 hin4'
              have hr2 := hr
              have HPv2 := Lib.hid (HPv.out hr)
              have HS8 := Lib.hid (HS8'.out hr)
              have HS62 := HS6.out hr
              clear HS6
              have HS6 := Lib.hid HS62
              clear HS62
              simp only [if_pos hr] at HRt
              clear hr2 HPv HS8' F1 F2 F3
              go_wp2_with (first | (go_at_call 18; (with_reducible refine (HE1.out _ _ _ _ _ f51 f52 hin1 hin2 (f54.out.ex (by (try show Ex _ _); with_reducible repeat (first | exact ex_refl _ | assumption | refine ex_drewL ?_ | refine ex_appR ?_ _ | refine ex_wx ?_ _ | refine ex_drew ?_ | refine ex_alloc ?_ _))) (hin4.out.ex (by (try show Ex _ _); with_reducible repeat (first | exact ex_refl _ | assumption | refine ex_drewL ?_ | refine ex_appR ?_ _ | refine ex_wx ?_ _ | refine ex_drew ?_ | refine ex_alloc ?_ _)))).mono ?_); rintro e w' ⟨rfl, X30, rfl⟩) | (go_at_call 19; (with_reducible refine (HRt.out _ (by (try show Ex _ _); with_reducible repeat (first | exact ex_refl _ | assumption | refine ex_drewL ?_ | refine ex_appR ?_ _ | refine ex_wx ?_ _ | refine ex_drew ?_ | refine ex_alloc ?_ _))).mono ?_); rintro e w' ⟨rfl, X31, rfl⟩))
              have tokS : True := trivial
              have tokE : True := trivial
              cases o2 with
              | none =>
                simp only [errV, Option.getD_some, Option.getD_none, Option.isSome_some, Option.isSome_none, List.length_nil] at HVf HS6 HE7
                go_wp2_with (first | (go_at_call 14; have _t := tokS; clear tokS; (with_reducible refine (HS6.out _ (by (try show Ex _ _); with_reducible repeat (first | exact ex_refl _ | assumption | refine ex_drewL ?_ | refine ex_appR ?_ _ | refine ex_wx ?_ _ | refine ex_drew ?_ | refine ex_alloc ?_ _))).mono ?_); rintro e w' ⟨v6, rfl, h6, X21, rfl⟩; (try simp only [wx_wx, wx_drew] at h6); obtain ⟨a6, c6, rfl, f61, f62, _, f64⟩ := h6.slg; clear h6; (try simp only [List.length_nil] at f61); replace f64 := Lib.hid f64) | (go_at_call 20; (with_reducible refine (HVf.out _ (by (try show Ex _ _); with_reducible repeat (first | exact ex_refl _ | assumption | refine ex_drewL ?_ | refine ex_appR ?_ _ | refine ex_wx ?_ _ | refine ex_drew ?_ | refine ex_alloc ?_ _))).mono ?_); rintro e w' ⟨v7, rfl, h7, X22, rfl⟩; (try simp only [wx_wx, wx_drew] at h7); obtain ⟨a7, c7, rfl, f71, f72, _, f74⟩ := h7.slg; clear h7; (try simp only [List.length_nil] at f71); replace f74 := Lib.hid f74) | (go_at_call 18; have _t := tokE; clear tokE; (with_reducible refine (HE7.out _ _ _ _ _ f61 f62 f71 f72 (f64.out.ex (by (try show Ex _ _); with_reducible repeat (first | exact ex_refl _ | assumption | refine ex_drewL ?_ | refine ex_appR ?_ _ | refine ex_wx ?_ _ | refine ex_drew ?_ | refine ex_alloc ?_ _))) (f74.out.ex (by (try show Ex _ _); with_reducible repeat (first | exact ex_refl _ | assumption | refine ex_drewL ?_ | refine ex_appR ?_ _ | refine ex_wx ?_ _ | refine ex_drew ?_ | refine ex_alloc ?_ _)))).mono ?_); rintro e w' ⟨rfl, X23, rfl⟩) | (go_at_call 21; (with_reducible refine (HPv2.out _ (by (try show Ex _ _); with_reducible repeat (first | exact ex_refl _ | assumption | refine ex_drewL ?_ | refine ex_appR ?_ _ | refine ex_wx ?_ _ | refine ex_drew ?_ | refine ex_alloc ?_ _))).mono ?_); rintro e w' ⟨pa8, pc8, qa8, qc8, rfl, ⟨g1, g2, g3, g4⟩, ⟨g5, g6, g7, g8⟩, X24, rfl⟩; (try simp only [wx_wx, wx_drew] at g4 g8); replace g4 := Lib.hid g4; replace g8 := Lib.hid g8) | (go_at_call 14; (with_reducible refine (HS8.out _ _ _ _ _ (by (try show Ex _ _); with_reducible repeat (first | exact ex_refl _ | assumption | refine ex_drewL ?_ | refine ex_appR ?_ _ | refine ex_wx ?_ _ | refine ex_drew ?_ | refine ex_alloc ?_ _)) g1 g2 (g4.out.ex (by (try show Ex _ _); with_reducible repeat (first | exact ex_refl _ | assumption | refine ex_drewL ?_ | refine ex_appR ?_ _ | refine ex_wx ?_ _ | refine ex_drew ?_ | refine ex_alloc ?_ _))) g5 g6 (g8.out.ex (by (try show Ex _ _); with_reducible repeat (first | exact ex_refl _ | assumption | refine ex_drewL ?_ | refine ex_appR ?_ _ | refine ex_wx ?_ _ | refine ex_drew ?_ | refine ex_alloc ?_ _)))).mono ?_); rintro e w' ⟨v9, rfl, h9, X25, rfl⟩; (try simp only [wx_wx, wx_drew] at h9); obtain ⟨a9, c9, rfl, f91, f92, _, f94⟩ := h9.slg; clear h9; replace f94 := Lib.hid f94) | (go_at_call 18; (with_reducible refine (HE9.out _ _ _ _ _ f91 f92 hin1 hin2 (f94.out.ex (by (try show Ex _ _); with_reducible repeat (first | exact ex_refl _ | assumption | refine ex_drewL ?_ | refine ex_appR ?_ _ | refine ex_wx ?_ _ | refine ex_drew ?_ | refine ex_alloc ?_ _))) (hin4.out.ex (by (try show Ex _ _); with_reducible repeat (first | exact ex_refl _ | assumption | refine ex_drewL ?_ | refine ex_appR ?_ _ | refine ex_wx ?_ _ | refine ex_drew ?_ | refine ex_alloc ?_ _)))).mono ?_); rintro e w' ⟨rfl, X26, rfl⟩) | (go_at_call 22; (with_reducible refine (HWd.out _).mono ?_); rintro e w' ⟨rfl, X27, rfl⟩))
                go_ret
                exact post_mk rfl (ex_trans hwC.out (by (try show Ex _ _); with_reducible repeat (first | exact ex_refl _ | assumption | refine ex_drewL ?_ | refine ex_appR ?_ _ | refine ex_wx ?_ _ | refine ex_drew ?_ | refine ex_alloc ?_ _)))
              | some z =>
                simp only [errV, Option.getD_some, Option.getD_none, Option.isSome_some, Option.isSome_none, List.length_nil] at HVf HS6 HE7
                go_wp2_with (first | (go_at_call 14; have _t := tokS; clear tokS; (with_reducible refine (HS6.out _ (by (try show Ex _ _); with_reducible repeat (first | exact ex_refl _ | assumption | refine ex_drewL ?_ | refine ex_appR ?_ _ | refine ex_wx ?_ _ | refine ex_drew ?_ | refine ex_alloc ?_ _))).mono ?_); rintro e w' ⟨v6, rfl, h6, X21, rfl⟩; (try simp only [wx_wx, wx_drew] at h6); obtain ⟨a6, c6, rfl, f61, f62, _, f64⟩ := h6.slg; clear h6; (try simp only [List.length_nil] at f61); replace f64 := Lib.hid f64) | (go_at_call 20; (with_reducible refine (HVf.out _ (by (try show Ex _ _); with_reducible repeat (first | exact ex_refl _ | assumption | refine ex_drewL ?_ | refine ex_appR ?_ _ | refine ex_wx ?_ _ | refine ex_drew ?_ | refine ex_alloc ?_ _))).mono ?_); rintro e w' ⟨v7, rfl, h7, X22, rfl⟩; (try simp only [wx_wx, wx_drew] at h7); obtain ⟨a7, c7, rfl, f71, f72, _, f74⟩ := h7.slg; clear h7; (try simp only [List.length_nil] at f71); replace f74 := Lib.hid f74) | (go_at_call 18; have _t := tokE; clear tokE; (with_reducible refine (HE7.out _ _ _ _ _ f61 f62 f71 f72 (f64.out.ex (by (try show Ex _ _); with_reducible repeat (first | exact ex_refl _ | assumption | refine ex_drewL ?_ | refine ex_appR ?_ _ | refine ex_wx ?_ _ | refine ex_drew ?_ | refine ex_alloc ?_ _))) (f74.out.ex (by (try show Ex _ _); with_reducible repeat (first | exact ex_refl _ | assumption | refine ex_drewL ?_ | refine ex_appR ?_ _ | refine ex_wx ?_ _ | refine ex_drew ?_ | refine ex_alloc ?_ _)))).mono ?_); rintro e w' ⟨rfl, X23, rfl⟩) | (go_at_call 21; (with_reducible refine (HPv2.out _ (by (try show Ex _ _); with_reducible repeat (first | exact ex_refl _ | assumption | refine ex_drewL ?_ | refine ex_appR ?_ _ | refine ex_wx ?_ _ | refine ex_drew ?_ | refine ex_alloc ?_ _))).mono ?_); rintro e w' ⟨pa8, pc8, qa8, qc8, rfl, ⟨g1, g2, g3, g4⟩, ⟨g5, g6, g7, g8⟩, X24, rfl⟩; (try simp only [wx_wx, wx_drew] at g4 g8); replace g4 := Lib.hid g4; replace g8 := Lib.hid g8) | (go_at_call 14; (with_reducible refine (HS8.out _ _ _ _ _ (by (try show Ex _ _); with_reducible repeat (first | exact ex_refl _ | assumption | refine ex_drewL ?_ | refine ex_appR ?_ _ | refine ex_wx ?_ _ | refine ex_drew ?_ | refine ex_alloc ?_ _)) g1 g2 (g4.out.ex (by (try show Ex _ _); with_reducible repeat (first | exact ex_refl _ | assumption | refine ex_drewL ?_ | refine ex_appR ?_ _ | refine ex_wx ?_ _ | refine ex_drew ?_ | refine ex_alloc ?_ _))) g5 g6 (g8.out.ex (by (try show Ex _ _); with_reducible repeat (first | exact ex_refl _ | assumption | refine ex_drewL ?_ | refine ex_appR ?_ _ | refine ex_wx ?_ _ | refine ex_drew ?_ | refine ex_alloc ?_ _)))).mono ?_); rintro e w' ⟨v9, rfl, h9, X25, rfl⟩; (try simp only [wx_wx, wx_drew] at h9); obtain ⟨a9, c9, rfl, f91, f92, _, f94⟩ := h9.slg; clear h9; replace f94 := Lib.hid f94) | (go_at_call 18; (with_reducible refine (HE9.out _ _ _ _ _ f91 f92 hin1 hin2 (f94.out.ex (by (try show Ex _ _); with_reducible repeat (first | exact ex_refl _ | assumption | refine ex_drewL ?_ | refine ex_appR ?_ _ | refine ex_wx ?_ _ | refine ex_drew ?_ | refine ex_alloc ?_ _))) (hin4.out.ex (by (try show Ex _ _); with_reducible repeat (first | exact ex_refl _ | assumption | refine ex_drewL ?_ | refine ex_appR ?_ _ | refine ex_wx ?_ _ | refine ex_drew ?_ | refine ex_alloc ?_ _)))).mono ?_); rintro e w' ⟨rfl, X26, rfl⟩) | (go_at_call 22; (with_reducible refine (HWd.out _).mono ?_); rintro e w' ⟨rfl, X27, rfl⟩))
                go_ret
                exact post_mk rfl (ex_trans hwC.out (by (try show Ex _ _); with_reducible repeat (first | exact ex_refl _ | assumption | refine ex_drewL ?_ | refine ex_appR ?_ _ | refine ex_wx ?_ _ | refine ex_drew ?_ | refine ex_alloc ?_ _)))
        | true =>
          go_wp2_with (first | (go_at_call 14; (with_reducible refine (HS1.out _ (by (try show Ex _ _); with_reducible repeat (first | exact ex_refl _ | assumption | refine ex_drewL ?_ | refine ex_appR ?_ _ | refine ex_wx ?_ _ | refine ex_drew ?_ | refine ex_alloc ?_ _))).mono ?_); rintro e w' ⟨v5, rfl, h5, X20, rfl⟩; (try simp only [wx_wx, wx_drew] at h5); obtain ⟨a5, c5, rfl, f51, f52, _, f54⟩ := h5.slg; clear h5; replace f54 := Lib.hid f54) | (go_at_call 15; (with_reducible refine (HSp.out _ (by (try show Ex _ _); with_reducible repeat (first | exact ex_refl _ | assumption | refine ex_drewL ?_ | refine ex_appR ?_ _ | refine ex_wx ?_ _ | refine ex_drew ?_ | refine ex_alloc ?_ _))).mono ?_); rintro e w' ⟨sa, sb, rfl, ⟨X5, rfl⟩, hcs⟩; (try simp only [wx_wx, wx_drew] at hcs); obtain ⟨s1, s2⟩ := hcs.one; replace hcs := Lib.hid hcs) | (go_at_call 16; (with_reducible refine (HIs.out _ _ _ (by (try show Ex _ _); with_reducible repeat (first | exact ex_refl _ | assumption | refine ex_drewL ?_ | refine ex_appR ?_ _ | refine ex_wx ?_ _ | refine ex_drew ?_ | refine ex_alloc ?_ _)) (hcs.out.ex (by (try show Ex _ _); with_reducible repeat (first | exact ex_refl _ | assumption | refine ex_drewL ?_ | refine ex_appR ?_ _ | refine ex_wx ?_ _ | refine ex_drew ?_ | refine ex_alloc ?_ _)))).mono ?_); rintro e w' ⟨rfl, X5b, rfl⟩))
          refine wp_worldC fun C hC => ?_
          have hBC : Ex B C := by rw [← hC]; exact (by (try show Ex _ _); with_reducible repeat (first | exact ex_refl _ | assumption | refine ex_drewL ?_ | refine ex_appR ?_ _ | refine ex_wx ?_ _ | refine ex_drew ?_ | refine ex_alloc ?_ _))
          have hwC : Hid (Ex w C) := Lib.hid (ex_trans hwB.out hBC)
          replace f54 := Lib.hid (f54.out.ex (w' := C) (by rw [← hC]; exact (by (try show Ex _ _); with_reducible repeat (first | exact ex_refl _ | assumption | refine ex_drewL ?_ | refine ex_appR ?_ _ | refine ex_wx ?_ _ | refine ex_drew ?_ | refine ex_alloc ?_ _))))
          replace t3 := cellsN_exF t3 tz hBC
          replace t4 := cellsN_exF t4 tz hBC
          replace t0 := (cellsN_some.1 t3).2 0 (by decide)
          replace tz := Nat.lt_of_lt_of_le tz (ex_size hBC)
          clear hC
          replace HL4 := Lib.hid (HL4.out.ex hBC)
          replace HRt := Lib.hid fun w' (k : Ex C w') => HRt.out w' (ex_trans hBC k)
          replace HVf := Lib.hid fun w' (k : Ex C w') => HVf.out w' (ex_trans hBC k)
          replace HPv := Lib.hid fun hr w' (k : Ex C w') => HPv.out hr w' (ex_trans hBC k)
          replace HS6 := Lib.hid fun hr w' (k : Ex C w') => HS6.out hr w' (ex_trans hBC k)
          replace HS8' := Lib.hid fun hr w' pa8 pc8 qa8 qc8 (k : Ex C w') => HS8'.out hr w' pa8 pc8 qa8 qc8 (ex_trans hBC k)
          clear HS1 HSp
          go_loopw [11, 57] (fun v i W' => ∃ k : Nat, k ≤ N ∧ i = I k ∧ Hid (OwnP W' C.heap.size v (amongL (lv.take k) R)) ∧ Ex C W') (fun _ i _ => N - (intOf i).toNat)
          case atStart => exact ⟨0, by omega, rfl, Lib.hid (ownp_nil _ _), (by (try show Ex _ _); with_reducible repeat (first | exact ex_refl _ | assumption | refine ex_drewL ?_ | refine ex_appR ?_ _ | refine ex_wx ?_ _ | refine ex_drew ?_ | refine ex_alloc ?_ _))⟩
          case round =>
            obtain ⟨k, hk, rfl, HO, ⟨X6, rfl⟩⟩ := hrel
            by_cases hlt : k < N
            · obtain ⟨g, off, hla, hg, hcell⟩ := HL4.out.pos (by rw [HN.out]; omega)
              cases hla
              obtain ⟨⟨x, y⟩, hxy⟩ : ∃ p, lv[k]? = some p := ⟨_, List.getElem?_eq_getElem (by rw [HN.out]; omega)⟩
              have hc1 : cellsN C g (off + k * 2) 2 = some #[.string x, .string y] := hcell k _ hxy
              have hl0 : ((amongL (lv.take k) R).length) ≤ k := Nat.le_trans (amongL_len _ _) (by rw [List.length_take]; omega)
              have HI := Lib.hid (fun w' => in_any R x w')
              unfold RC at HI
              have HT : Hid (amongL (lv.take (k + 1)) R = amongL (lv.take k) R ++ (if inP R x then [(x, y)] else [])) := Lib.hid (by
                obtain ⟨h1, h2⟩ := List.getElem?_eq_some_iff.1 hxy
                unfold amongL
                rw [List.take_succ_eq_append_getElem h1, List.filter_append, h2, List.filter_cons, List.filter_nil])
              generalize inP R x = b at HI HT
              clear hcell hxy
              cases b with
              | false =>
                have HT2 : Hid (amongL (lv.take (k + 1)) R = amongL (lv.take k) R) := Lib.hid (by have := HT.out; simpa using this)
                go_wp2_with (go_at_call 17; (with_reducible refine (HI.out _).mono ?_); rintro e w2 ⟨rfl, X3, rfl⟩)
                exact ⟨⟨k + 1, by omega, by go_num, Lib.hid (by rw [HT2.out]; exact HO.out.ex (by (try show Ex _ _); with_reducible repeat (first | exact ex_refl _ | assumption | refine ex_drewL ?_ | refine ex_appR ?_ _ | refine ex_wx ?_ _ | refine ex_drew ?_ | refine ex_alloc ?_ _))), (by (try show Ex _ _); with_reducible repeat (first | exact ex_refl _ | assumption | refine ex_drewL ?_ | refine ex_appR ?_ _ | refine ex_wx ?_ _ | refine ex_drew ?_ | refine ex_alloc ?_ _))⟩, by simp [intOf]; omega⟩
              | true =>
                have HT2 : Hid (amongL (lv.take (k + 1)) R = amongL (lv.take k) R ++ [(x, y)]) := Lib.hid (by have := HT.out; simpa using this)
                have hsl1 := Lib.hid (fun (w0 : World) w' (gg : Nat) (k' : Ex (w0.alloc (.cells #[.string x, .string y] 42)) w') (hgg : gg = w0.heap.size) => slp_oneF (x, y) k' hgg)
                go_wp2_with (first | (go_at_call 17; (with_reducible refine (HI.out _).mono ?_); rintro e w2 ⟨rfl, X3, rfl⟩) | (at_builtin; refine wpAppP (r := [(x, y)]) _ _ rfl rfl (HO.out.ex (by (try show Ex _ _); with_reducible repeat (first | exact ex_refl _ | assumption | refine ex_drewL ?_ | refine ex_appR ?_ _ | refine ex_wx ?_ _ | refine ex_drew ?_ | refine ex_alloc ?_ _))) rfl rfl rfl (hsl1.out _ _ _ (by (try show Ex _ _); with_reducible repeat (first | exact ex_refl _ | assumption | refine ex_drewL ?_ | refine ex_appR ?_ _ | refine ex_wx ?_ _ | refine ex_drew ?_ | refine ex_alloc ?_ _)) (by simp [go_sem])) (by simp only [List.length_singleton]; omega) (by simp [go_sem] <;> omega) (fun v1 w1 hown1 hbe => ?_); obtain ⟨X8, rfl⟩ := exOf (A := C) (by (try show Ex _ _); with_reducible repeat (first | exact ex_refl _ | assumption | refine ex_drewL ?_ | refine ex_appR ?_ _ | refine ex_wx ?_ _ | refine ex_drew ?_ | refine ex_alloc ?_ _)) hbe; rw [← HT2.out] at hown1; replace hown1 := Lib.hid hown1))
                exact ⟨⟨k + 1, by omega, by go_num, hown1, (by (try show Ex _ _); with_reducible repeat (first | exact ex_refl _ | assumption | refine ex_drewL ?_ | refine ex_appR ?_ _ | refine ex_wx ?_ _ | refine ex_drew ?_ | refine ex_alloc ?_ _))⟩, by simp [intOf]; omega⟩
            · obtain rfl : k = N := by omega
              have HO2 := HO.out
              rw [List.take_of_length_le (Nat.le_of_eq HN.out)] at HO2
              obtain ⟨ia, ic, hiv, hin1, hin2, _, hin4'⟩ := HO2.slg
              subst hiv
              have hin4 := Lib.hid hin4'
              clear hlt hk HO HO2 hin4'
              have hr2 := hr
              have HPv2 := Lib.hid (HPv.out hr)
              have HS8 := Lib.hid (HS8'.out hr)
              have HS62 := HS6.out hr
              clear HS6
              have HS6 := Lib.hid HS62
              clear HS62
              simp only [if_pos hr] at HRt
              clear hr2 HPv HS8' F1 F2 F3
              go_wp2_with (first | (go_at_call 18; (with_reducible refine (HE1.out _ _ _ _ _ f51 f52 hin1 hin2 (f54.out.ex (by (try show Ex _ _); with_reducible repeat (first | exact ex_refl _ | assumption | refine ex_drewL ?_ | refine ex_appR ?_ _ | refine ex_wx ?_ _ | refine ex_drew ?_ | refine ex_alloc ?_ _))) (hin4.out.ex (by (try show Ex _ _); with_reducible repeat (first | exact ex_refl _ | assumption | refine ex_drewL ?_ | refine ex_appR ?_ _ | refine ex_wx ?_ _ | refine ex_drew ?_ | refine ex_alloc ?_ _)))).mono ?_); rintro e w' ⟨rfl, X30, rfl⟩) | (go_at_call 19; (with_reducible refine (HRt.out _ (by (try show Ex _ _); with_reducible repeat (first | exact ex_refl _ | assumption | refine ex_drewL ?_ | refine ex_appR ?_ _ | refine ex_wx ?_ _ | refine ex_drew ?_ | refine ex_alloc ?_ _))).mono ?_); rintro e w' ⟨rfl, X31, rfl⟩))
              have tokS : True := trivial
              have tokE : True := trivial
              cases o2 with
              | none =>
                simp only [errV, Option.getD_some, Option.getD_none, Option.isSome_some, Option.isSome_none, List.length_nil] at HVf HS6 HE7
                go_wp2_with (first | (go_at_call 14; have _t := tokS; clear tokS; (with_reducible refine (HS6.out _ (by (try show Ex _ _); with_reducible repeat (first | exact ex_refl _ | assumption | refine ex_drewL ?_ | refine ex_appR ?_ _ | refine ex_wx ?_ _ | refine ex_drew ?_ | refine ex_alloc ?_ _))).mono ?_); rintro e w' ⟨v6, rfl, h6, X21, rfl⟩; (try simp only [wx_wx, wx_drew] at h6); obtain ⟨a6, c6, rfl, f61, f62, _, f64⟩ := h6.slg; clear h6; (try simp only [List.length_nil] at f61); replace f64 := Lib.hid f64) | (go_at_call 20; (with_reducible refine (HVf.out _ (by (try show Ex _ _); with_reducible repeat (first | exact ex_refl _ | assumption | refine ex_drewL ?_ | refine ex_appR ?_ _ | refine ex_wx ?_ _ | refine ex_drew ?_ | refine ex_alloc ?_ _))).mono ?_); rintro e w' ⟨v7, rfl, h7, X22, rfl⟩; (try simp only [wx_wx, wx_drew] at h7); obtain ⟨a7, c7, rfl, f71, f72, _, f74⟩ := h7.slg; clear h7; (try simp only [List.length_nil] at f71); replace f74 := Lib.hid f74) | (go_at_call 18; have _t := tokE; clear tokE; (with_reducible refine (HE7.out _ _ _ _ _ f61 f62 f71 f72 (f64.out.ex (by (try show Ex _ _); with_reducible repeat (first | exact ex_refl _ | assumption | refine ex_drewL ?_ | refine ex_appR ?_ _ | refine ex_wx ?_ _ | refine ex_drew ?_ | refine ex_alloc ?_ _))) (f74.out.ex (by (try show Ex _ _); with_reducible repeat (first | exact ex_refl _ | assumption | refine ex_drewL ?_ | refine ex_appR ?_ _ | refine ex_wx ?_ _ | refine ex_drew ?_ | refine ex_alloc ?_ _)))).mono ?_); rintro e w' ⟨rfl, X23, rfl⟩) | (go_at_call 21; (with_reducible refine (HPv2.out _ (by (try show Ex _ _); with_reducible repeat (first | exact ex_refl _ | assumption | refine ex_drewL ?_ | refine ex_appR ?_ _ | refine ex_wx ?_ _ | refine ex_drew ?_ | refine ex_alloc ?_ _))).mono ?_); rintro e w' ⟨pa8, pc8, qa8, qc8, rfl, ⟨g1, g2, g3, g4⟩, ⟨g5, g6, g7, g8⟩, X24, rfl⟩; (try simp only [wx_wx, wx_drew] at g4 g8); replace g4 := Lib.hid g4; replace g8 := Lib.hid g8) | (go_at_call 14; (with_reducible refine (HS8.out _ _ _ _ _ (by (try show Ex _ _); with_reducible repeat (first | exact ex_refl _ | assumption | refine ex_drewL ?_ | refine ex_appR ?_ _ | refine ex_wx ?_ _ | refine ex_drew ?_ | refine ex_alloc ?_ _)) g1 g2 (g4.out.ex (by (try show Ex _ _); with_reducible repeat (first | exact ex_refl _ | assumption | refine ex_drewL ?_ | refine ex_appR ?_ _ | refine ex_wx ?_ _ | refine ex_drew ?_ | refine ex_alloc ?_ _))) g5 g6 (g8.out.ex (by (try show Ex _ _); with_reducible repeat (first | exact ex_refl _ | assumption | refine ex_drewL ?_ | refine ex_appR ?_ _ | refine ex_wx ?_ _ | refine ex_drew ?_ | refine ex_alloc ?_ _)))).mono ?_); rintro e w' ⟨v9, rfl, h9, X25, rfl⟩; (try simp only [wx_wx, wx_drew] at h9); obtain ⟨a9, c9, rfl, f91, f92, _, f94⟩ := h9.slg; clear h9; replace f94 := Lib.hid f94) | (go_at_call 18; (with_reducible refine (HE9.out _ _ _ _ _ f91 f92 hin1 hin2 (f94.out.ex (by (try show Ex _ _); with_reducible repeat (first | exact ex_refl _ | assumption | refine ex_drewL ?_ | refine ex_appR ?_ _ | refine ex_wx ?_ _ | refine ex_drew ?_ | refine ex_alloc ?_ _))) (hin4.out.ex (by (try show Ex _ _); with_reducible repeat (first | exact ex_refl _ | assumption | refine ex_drewL ?_ | refine ex_appR ?_ _ | refine ex_wx ?_ _ | refine ex_drew ?_ | refine ex_alloc ?_ _)))).mono ?_); rintro e w' ⟨rfl, X26, rfl⟩) | (go_at_call 22; (with_reducible refine (HWd.out _).mono ?_); rintro e w' ⟨rfl, X27, rfl⟩))
                go_ret
                exact post_mk rfl (ex_trans hwC.out (by (try show Ex _ _); with_reducible repeat (first | exact ex_refl _ | assumption | refine ex_drewL ?_ | refine ex_appR ?_ _ | refine ex_wx ?_ _ | refine ex_drew ?_ | refine ex_alloc ?_ _)))
              | some z =>
                simp only [errV, Option.getD_some, Option.getD_none, Option.isSome_some, Option.isSome_none, List.length_nil] at HVf HS6 HE7
                go_wp2_with (first | (go_at_call 14; have _t := tokS; clear tokS; (with_reducible refine (HS6.out _ (by (try show Ex _ _); with_reducible repeat (first | exact ex_refl _ | assumption | refine ex_drewL ?_ | refine ex_appR ?_ _ | refine ex_wx ?_ _ | refine ex_drew ?_ | refine ex_alloc ?_ _))).mono ?_); rintro e w' ⟨v6, rfl, h6, X21, rfl⟩; (try simp only [wx_wx, wx_drew] at h6); obtain ⟨a6, c6, rfl, f61, f62, _, f64⟩ := h6.slg; clear h6; (try simp only [List.length_nil] at f61); replace f64 := Lib.hid f64) | (go_at_call 20; (with_reducible refine (HVf.out _ (by (try show Ex _ _); with_reducible repeat (first | exact ex_refl _ | assumption | refine ex_drewL ?_ | refine ex_appR ?_ _ | refine ex_wx ?_ _ | refine ex_drew ?_ | refine ex_alloc ?_ _))).mono ?_); rintro e w' ⟨v7, rfl, h7, X22, rfl⟩; (try simp only [wx_wx, wx_drew] at h7); obtain ⟨a7, c7, rfl, f71, f72, _, f74⟩ := h7.slg; clear h7; (try simp only [List.length_nil] at f71); replace f74 := Lib.hid f74) | (go_at_call 18; have _t := tokE; clear tokE; (with_reducible refine (HE7.out _ _ _ _ _ f61 f62 f71 f72 (f64.out.ex (by (try show Ex _ _); with_reducible repeat (first | exact ex_refl _ | assumption | refine ex_drewL ?_ | refine ex_appR ?_ _ | refine ex_wx ?_ _ | refine ex_drew ?_ | refine ex_alloc ?_ _))) (f74.out.ex (by (try show Ex _ _); with_reducible repeat (first | exact ex_refl _ | assumption | refine ex_drewL ?_ | refine ex_appR ?_ _ | refine ex_wx ?_ _ | refine ex_drew ?_ | refine ex_alloc ?_ _)))).mono ?_); rintro e w' ⟨rfl, X23, rfl⟩) | (go_at_call 21; (with_reducible refine (HPv2.out _ (by (try show Ex _ _); with_reducible repeat (first | exact ex_refl _ | assumption | refine ex_drewL ?_ | refine ex_appR ?_ _ | refine ex_wx ?_ _ | refine ex_drew ?_ | refine ex_alloc ?_ _))).mono ?_); rintro e w' ⟨pa8, pc8, qa8, qc8, rfl, ⟨g1, g2, g3, g4⟩, ⟨g5, g6, g7, g8⟩, X24, rfl⟩; (try simp only [wx_wx, wx_drew] at g4 g8); replace g4 := Lib.hid g4; replace g8 := Lib.hid g8) | (go_at_call 14; (with_reducible refine (HS8.out _ _ _ _ _ (by (try show Ex _ _); with_reducible repeat (first | exact ex_refl _ | assumption | refine ex_drewL ?_ | refine ex_appR ?_ _ | refine ex_wx ?_ _ | refine ex_drew ?_ | refine ex_alloc ?_ _)) g1 g2 (g4.out.ex (by (try show Ex _ _); with_reducible repeat (first | exact ex_refl _ | assumption | refine ex_drewL ?_ | refine ex_appR ?_ _ | refine ex_wx ?_ _ | refine ex_drew ?_ | refine ex_alloc ?_ _))) g5 g6 (g8.out.ex (by (try show Ex _ _); with_reducible repeat (first | exact ex_refl _ | assumption | refine ex_drewL ?_ | refine ex_appR ?_ _ | refine ex_wx ?_ _ | refine ex_drew ?_ | refine ex_alloc ?_ _)))).mono ?_); rintro e w' ⟨v9, rfl, h9, X25, rfl⟩; (try simp only [wx_wx, wx_drew] at h9); obtain ⟨a9, c9, rfl, f91, f92, _, f94⟩ := h9.slg; clear h9; replace f94 := Lib.hid f94) | (go_at_call 18; (with_reducible refine (HE9.out _ _ _ _ _ f91 f92 hin1 hin2 (f94.out.ex (by (try show Ex _ _); with_reducible repeat (first | exact ex_refl _ | assumption | refine ex_drewL ?_ | refine ex_appR ?_ _ | refine ex_wx ?_ _ | refine ex_drew ?_ | refine ex_alloc ?_ _))) (hin4.out.ex (by (try show Ex _ _); with_reducible repeat (first | exact ex_refl _ | assumption | refine ex_drewL ?_ | refine ex_appR ?_ _ | refine ex_wx ?_ _ | refine ex_drew ?_ | refine ex_alloc ?_ _)))).mono ?_); rintro e w' ⟨rfl, X26, rfl⟩) | (go_at_call 22; (with_reducible refine (HWd.out _).mono ?_); rintro e w' ⟨rfl, X27, rfl⟩))
                go_ret
                exact post_mk rfl (ex_trans hwC.out (by (try show Ex _ _); with_reducible repeat (first | exact ex_refl _ | assumption | refine ex_drewL ?_ | refine ex_appR ?_ _ | refine ex_wx ?_ _ | refine ex_drew ?_ | refine ex_alloc ?_ _)))
      | none =>
        simp only [Option.getD_none, Option.isSome_none] at HS1
        generalize wideB W = b at HWd
        cases b with
        | false =>
          go_wp2_with (first | (go_at_call 14; (with_reducible refine (HS1.out _ (by (try show Ex _ _); with_reducible repeat (first | exact ex_refl _ | assumption | refine ex_drewL ?_ | refine ex_appR ?_ _ | refine ex_wx ?_ _ | refine ex_drew ?_ | refine ex_alloc ?_ _))).mono ?_); rintro e w' ⟨v5, rfl, h5, X20, rfl⟩; (try simp only [wx_wx, wx_drew] at h5); obtain ⟨a5, c5, rfl, f51, f52, _, f54⟩ := h5.slg; clear h5; replace f54 := Lib.hid f54) | (go_at_call 15; (with_reducible refine (HSp.out _ (by (try show Ex _ _); with_reducible repeat (first | exact ex_refl _ | assumption | refine ex_drewL ?_ | refine ex_appR ?_ _ | refine ex_wx ?_ _ | refine ex_drew ?_ | refine ex_alloc ?_ _))).mono ?_); rintro e w' ⟨sa, sb, rfl, ⟨X5, rfl⟩, hcs⟩; (try simp only [wx_wx, wx_drew] at hcs); obtain ⟨s1, s2⟩ := hcs.one; replace hcs := Lib.hid hcs) | (go_at_call 16; (with_reducible refine (HIs.out _ _ _ (by (try show Ex _ _); with_reducible repeat (first | exact ex_refl _ | assumption | refine ex_drewL ?_ | refine ex_appR ?_ _ | refine ex_wx ?_ _ | refine ex_drew ?_ | refine ex_alloc ?_ _)) (hcs.out.ex (by (try show Ex _ _); with_reducible repeat (first | exact ex_refl _ | assumption | refine ex_drewL ?_ | refine ex_appR ?_ _ | refine ex_wx ?_ _ | refine ex_drew ?_ | refine ex_alloc ?_ _)))).mono ?_); rintro e w' ⟨rfl, X5b, rfl⟩))
          refine wp_worldC fun C hC => ?_
          have hBC : Ex B C := by rw [← hC]; exact (by (try show Ex _ _); with_reducible repeat (first | exact ex_refl _ | assumption | refine ex_drewL ?_ | refine ex_appR ?_ _ | refine ex_wx ?_ _ | refine ex_drew ?_ | refine ex_alloc ?_ _))
          have hwC : Hid (Ex w C) := Lib.hid (ex_trans hwB.out hBC)
          replace f54 := Lib.hid (f54.out.ex (w' := C) (by rw [← hC]; exact (by (try show Ex _ _); with_reducible repeat (first | exact ex_refl _ | assumption | refine ex_drewL ?_ | refine ex_appR ?_ _ | refine ex_wx ?_ _ | refine ex_drew ?_ | refine ex_alloc ?_ _))))
          replace t3 := cellsN_exF t3 tz hBC
          replace t4 := cellsN_exF t4 tz hBC
          replace t0 := (cellsN_some.1 t3).2 0 (by decide)
          replace tz := Nat.lt_of_lt_of_le tz (ex_size hBC)
          clear hC
          replace HL4 := Lib.hid (HL4.out.ex hBC)
          replace HRt := Lib.hid fun w' (k : Ex C w') => HRt.out w' (ex_trans hBC k)
          replace HVf := Lib.hid fun w' (k : Ex C w') => HVf.out w' (ex_trans hBC k)
          replace HPv := Lib.hid fun hr w' (k : Ex C w') => HPv.out hr w' (ex_trans hBC k)
          replace HS6 := Lib.hid fun hr w' (k : Ex C w') => HS6.out hr w' (ex_trans hBC k)
          replace HS8' := Lib.hid fun hr w' pa8 pc8 qa8 qc8 (k : Ex C w') => HS8'.out hr w' pa8 pc8 qa8 qc8 (ex_trans hBC k)
          clear HS1 HSp
          go_loopw [11, 57] (fun v i W' => ∃ k : Nat, k ≤ N ∧ i = I k ∧ Hid (OwnP W' C.heap.size v (amongL (lv.take k) R)) ∧ Ex C W') (fun _ i _ => N - (intOf i).toNat)
          case atStart => exact ⟨0, by omega, rfl, Lib.hid (ownp_nil _ _), (by (try show Ex _ _); with_reducible repeat (first | exact ex_refl _ | assumption | refine ex_drewL ?_ | refine ex_appR ?_ _ | refine ex_wx ?_ _ | refine ex_drew ?_ | refine ex_alloc ?_ _))⟩
          case round =>
            obtain ⟨k, hk, rfl, HO, ⟨X6, rfl⟩⟩ := hrel
            by_cases hlt : k < N
            · obtain ⟨g, off, hla, hg, hcell⟩ := HL4.out.pos (by rw [HN.out]; omega)
              cases hla
              obtain ⟨⟨x, y⟩, hxy⟩ : ∃ p, lv[k]? = some p := ⟨_, List.getElem?_eq_getElem (by rw [HN.out]; omega)⟩
              have hc1 : cellsN C g (off + k * 2) 2 = some #[.string x, .string y] := hcell k _ hxy
              have hl0 : ((amongL (lv.take k) R).length) ≤ k := Nat.le_trans (amongL_len _ _) (by rw [List.length_take]; omega)
              have HI := Lib.hid (fun w' => in_any R x w')
              unfold RC at HI
              have HT : Hid (amongL (lv.take (k + 1)) R = amongL (lv.take k) R ++ (if inP R x then [(x, y)] else [])) := Lib.hid (by
                obtain ⟨h1, h2⟩ := List.getElem?_eq_some_iff.1 hxy
                unfold amongL
                rw [List.take_succ_eq_append_getElem h1, List.filter_append, h2, List.filter_cons, List.filter_nil])
              generalize inP R x = b at HI HT
              clear hcell hxy
              cases b with
              | false =>
                have HT2 : Hid (amongL (lv.take (k + 1)) R = amongL (lv.take k) R) := Lib.hid (by have := HT.out; simpa using this)
                go_wp2_with (go_at_call 17; (with_reducible refine (HI.out _).mono ?_); rintro e w2 ⟨rfl, X3, rfl⟩)
                exact ⟨⟨k + 1, by omega, by go_num, Lib.hid (by rw [HT2.out]; exact HO.out.ex (by (try show Ex _ _); with_reducible repeat (first | exact ex_refl _ | assumption | refine ex_drewL ?_ | refine ex_appR ?_ _ | refine ex_wx ?_ _ | refine ex_drew ?_ | refine ex_alloc ?_ _))), (by (try show Ex _ _); with_reducible repeat (first | exact ex_refl _ | assumption | refine ex_drewL ?_ | refine ex_appR ?_ _ | refine ex_wx ?_ _ | refine ex_drew ?_ | refine ex_alloc ?_ _))⟩, by simp [intOf]; omega⟩
              | true =>
                have HT2 : Hid (amongL (lv.take (k + 1)) R = amongL (lv.take k) R ++ [(x, y)]) := Lib.hid (by have := HT.out; simpa using this)
                have hsl1 := Lib.hid (fun (w0 : World) w' (gg : Nat) (k' : Ex (w0.alloc (.cells #[.string x, .string y] 42)) w') (hgg : gg = w0.heap.size) => slp_oneF (x, y) k' hgg)
                go_wp2_with (first | (go_at_call 17; (with_reducible refine (HI.out _).mono ?_); rintro e w2 ⟨rfl, X3, rfl⟩) | (at_builtin; refine wpAppP (r := [(x, y)]) _ _ rfl rfl (HO.out.ex (by (try show Ex _ _); with_reducible repeat (first | exact ex_refl _ | assumption | refine ex_drewL ?_ | refine ex_appR ?_ _ | refine ex_wx ?_ _ | refine ex_drew ?_ | refine ex_alloc ?_ _))) rfl rfl rfl (hsl1.out _ _ _ (by (try show Ex _ _); with_reducible repeat (first | exact ex_refl _ | assumption | refine ex_drewL ?_ | refine ex_appR ?_ _ | refine ex_wx ?_ _ | refine ex_drew ?_ | refine ex_alloc ?_ _)) (by simp [go_sem])) (by simp only [List.length_singleton]; omega) (by simp [go_sem] <;> omega) (fun v1 w1 hown1 hbe => ?_); obtain ⟨X8, rfl⟩ := exOf (A := C) (by (try show Ex _ _); with_reducible repeat (first | exact ex_refl _ | assumption | refine ex_drewL ?_ | refine ex_appR ?_ _ | refine ex_wx ?_ _ | refine ex_drew ?_ | refine ex_alloc ?_ _)) hbe; rw [← HT2.out] at hown1; replace hown1 := Lib.hid hown1))
                exact ⟨⟨k + 1, by omega, by go_num, hown1, (by (try show Ex _ _); with_reducible repeat (first | exact ex_refl _ | assumption | refine ex_drewL ?_ | refine ex_appR ?_ _ | refine ex_wx ?_ _ | refine ex_drew ?_ | refine ex_alloc ?_ _))⟩, by simp [intOf]; omega⟩
            · obtain rfl : k = N := by omega
              have HO2 := HO.out
              rw [List.take_of_length_le (Nat.le_of_eq HN.out)] at HO2
              obtain ⟨ia, ic, hiv, hin1, hin2, _, hin4'⟩ := HO2.slg
              subst hiv
              have hin4 := Lib.hid hin4'
              clear hlt hk HO HO2 hin4'
              cases hr : rightP lv with
              | false =>
                simp only [hr, Bool.false_eq_true, if_false] at HRt
                go_wp2_with (go_at_call 19; (with_reducible refine (HRt.out _ (by (try show Ex _ _); with_reducible repeat (first | exact ex_refl _ | assumption | refine ex_drewL ?_ | refine ex_appR ?_ _ | refine ex_wx ?_ _ | refine ex_drew ?_ | refine ex_alloc ?_ _))).mono ?_); rintro e w' ⟨rfl, X31, rfl⟩)
                go_ret
                exact post_mk rfl (ex_trans hwC.out (by (try show Ex _ _); with_reducible repeat (first | exact ex_refl _ | assumption | refine ex_drewL ?_ | refine ex_appR ?_ _ | refine ex_wx ?_ _ | refine ex_drew ?_ | refine ex_alloc ?_ _)))
              | true =>
                have hr2 := hr
                have HPv2 := Lib.hid (HPv.out hr)
                have HS8 := Lib.hid (HS8'.out hr)
                have HS62 := HS6.out hr
                clear HS6
                have HS6 := Lib.hid HS62
                clear HS62
                simp only [if_pos hr] at HRt
                clear hr2 HPv HS8' F1 F2 F3
                go_wp2_with (first | (go_at_call 18; (with_reducible refine (HE1.out _ _ _ _ _ f51 f52 hin1 hin2 (f54.out.ex (by (try show Ex _ _); with_reducible repeat (first | exact ex_refl _ | assumption | refine ex_drewL ?_ | refine ex_appR ?_ _ | refine ex_wx ?_ _ | refine ex_drew ?_ | refine ex_alloc ?_ _))) (hin4.out.ex (by (try show Ex _ _); with_reducible repeat (first | exact ex_refl _ | assumption | refine ex_drewL ?_ | refine ex_appR ?_ _ | refine ex_wx ?_ _ | refine ex_drew ?_ | refine ex_alloc ?_ _)))).mono ?_); rintro e w' ⟨rfl, X30, rfl⟩) | (go_at_call 19; (with_reducible refine (HRt.out _ (by (try show Ex _ _); with_reducible repeat (first | exact ex_refl _ | assumption | refine ex_drewL ?_ | refine ex_appR ?_ _ | refine ex_wx ?_ _ | refine ex_drew ?_ | refine ex_alloc ?_ _))).mono ?_); rintro e w' ⟨rfl, X31, rfl⟩))
                have tokS : True := trivial
                have tokE : True := trivial
                cases o2 with
                | none =>
                  simp only [errV, Option.getD_some, Option.getD_none, Option.isSome_some, Option.isSome_none, List.length_nil] at HVf HS6 HE7
                  go_wp2_with (first | (go_at_call 14; have _t := tokS; clear tokS; (with_reducible refine (HS6.out _ (by (try show Ex _ _); with_reducible repeat (first | exact ex_refl _ | assumption | refine ex_drewL ?_ | refine ex_appR ?_ _ | refine ex_wx ?_ _ | refine ex_drew ?_ | refine ex_alloc ?_ _))).mono ?_); rintro e w' ⟨v6, rfl, h6, X21, rfl⟩; (try simp only [wx_wx, wx_drew] at h6); obtain ⟨a6, c6, rfl, f61, f62, _, f64⟩ := h6.slg; clear h6; (try simp only [List.length_nil] at f61); replace f64 := Lib.hid f64) | (go_at_call 20; (with_reducible refine (HVf.out _ (by (try show Ex _ _); with_reducible repeat (first | exact ex_refl _ | assumption | refine ex_drewL ?_ | refine ex_appR ?_ _ | refine ex_wx ?_ _ | refine ex_drew ?_ | refine ex_alloc ?_ _))).mono ?_); rintro e w' ⟨v7, rfl, h7, X22, rfl⟩; (try simp only [wx_wx, wx_drew] at h7); obtain ⟨a7, c7, rfl, f71, f72, _, f74⟩ := h7.slg; clear h7; (try simp only [List.length_nil] at f71); replace f74 := Lib.hid f74) | (go_at_call 18; have _t := tokE; clear tokE; (with_reducible refine (HE7.out _ _ _ _ _ f61 f62 f71 f72 (f64.out.ex (by (try show Ex _ _); with_reducible repeat (first | exact ex_refl _ | assumption | refine ex_drewL ?_ | refine ex_appR ?_ _ | refine ex_wx ?_ _ | refine ex_drew ?_ | refine ex_alloc ?_ _))) (f74.out.ex (by (try show Ex _ _); with_reducible repeat (first | exact ex_refl _ | assumption | refine ex_drewL ?_ | refine ex_appR ?_ _ | refine ex_wx ?_ _ | refine ex_drew ?_ | refine ex_alloc ?_ _)))).mono ?_); rintro e w' ⟨rfl, X23, rfl⟩) | (go_at_call 21; (with_reducible refine (HPv2.out _ (by (try show Ex _ _); with_reducible repeat (first | exact ex_refl _ | assumption | refine ex_drewL ?_ | refine ex_appR ?_ _ | refine ex_wx ?_ _ | refine ex_drew ?_ | refine ex_alloc ?_ _))).mono ?_); rintro e w' ⟨pa8, pc8, qa8, qc8, rfl, ⟨g1, g2, g3, g4⟩, ⟨g5, g6, g7, g8⟩, X24, rfl⟩; (try simp only [wx_wx, wx_drew] at g4 g8); replace g4 := Lib.hid g4; replace g8 := Lib.hid g8) | (go_at_call 14; (with_reducible refine (HS8.out _ _ _ _ _ (by (try show Ex _ _); with_reducible repeat (first | exact ex_refl _ | assumption | refine ex_drewL ?_ | refine ex_appR ?_ _ | refine ex_wx ?_ _ | refine ex_drew ?_ | refine ex_alloc ?_ _)) g1 g2 (g4.out.ex (by (try show Ex _ _); with_reducible repeat (first | exact ex_refl _ | assumption | refine ex_drewL ?_ | refine ex_appR ?_ _ | refine ex_wx ?_ _ | refine ex_drew ?_ | refine ex_alloc ?_ _))) g5 g6 (g8.out.ex (by (try show Ex _ _); with_reducible repeat (first | exact ex_refl _ | assumption | refine ex_drewL ?_ | refine ex_appR ?_ _ | refine ex_wx ?_ _ | refine ex_drew ?_ | refine ex_alloc ?_ _)))).mono ?_); rintro e w' ⟨v9, rfl, h9, X25, rfl⟩; (try simp only [wx_wx, wx_drew] at h9); obtain ⟨a9, c9, rfl, f91, f92, _, f94⟩ := h9.slg; clear h9; replace f94 := Lib.hid f94) | (go_at_call 18; (with_reducible refine (HE9.out _ _ _ _ _ f91 f92 hin1 hin2 (f94.out.ex (by (try show Ex _ _); with_reducible repeat (first | exact ex_refl _ | assumption | refine ex_drewL ?_ | refine ex_appR ?_ _ | refine ex_wx ?_ _ | refine ex_drew ?_ | refine ex_alloc ?_ _))) (hin4.out.ex (by (try show Ex _ _); with_reducible repeat (first | exact ex_refl _ | assumption | refine ex_drewL ?_ | refine ex_appR ?_ _ | refine ex_wx ?_ _ | refine ex_drew ?_ | refine ex_alloc ?_ _)))).mono ?_); rintro e w' ⟨rfl, X26, rfl⟩) | (go_at_call 22; (with_reducible refine (HWd.out _).mono ?_); rintro e w' ⟨rfl, X27, rfl⟩))
                  go_ret
                  exact post_mk rfl (ex_trans hwC.out (by (try show Ex _ _); with_reducible repeat (first | exact ex_refl _ | assumption | refine ex_drewL ?_ | refine ex_appR ?_ _ | refine ex_wx ?_ _ | refine ex_drew ?_ | refine ex_alloc ?_ _)))
                | some z =>
                  simp only [errV, Option.getD_some, Option.getD_none, Option.isSome_some, Option.isSome_none, List.length_nil] at HVf HS6 HE7
                  go_wp2_with (first | (go_at_call 14; have _t := tokS; clear tokS; (with_reducible refine (HS6.out _ (by (try show Ex _ _); with_reducible repeat (first | exact ex_refl _ | assumption | refine ex_drewL ?_ | refine ex_appR ?_ _ | refine ex_wx ?_ _ | refine ex_drew ?_ | refine ex_alloc ?_ _))).mono ?_); rintro e w' ⟨v6, rfl, h6, X21, rfl⟩; (try simp only [wx_wx, wx_drew] at h6); obtain ⟨a6, c6, rfl, f61, f62, _, f64⟩ := h6.slg; clear h6; (try simp only [List.length_nil] at f61); replace f64 := Lib.hid f64) | (go_at_call 20; (with_reducible refine (HVf.out _ (by (try show Ex _ _); with_reducible repeat (first | exact ex_refl _ | assumption | refine ex_drewL ?_ | refine ex_appR ?_ _ | refine ex_wx ?_ _ | refine ex_drew ?_ | refine ex_alloc ?_ _))).mono ?_); rintro e w' ⟨v7, rfl, h7, X22, rfl⟩; (try simp only [wx_wx, wx_drew] at h7); obtain ⟨a7, c7, rfl, f71, f72, _, f74⟩ := h7.slg; clear h7; (try simp only [List.length_nil] at f71); replace f74 := Lib.hid f74) | (go_at_call 18; have _t := tokE; clear tokE; (with_reducible refine (HE7.out _ _ _ _ _ f61 f62 f71 f72 (f64.out.ex (by (try show Ex _ _); with_reducible repeat (first | exact ex_refl _ | assumption | refine ex_drewL ?_ | refine ex_appR ?_ _ | refine ex_wx ?_ _ | refine ex_drew ?_ | refine ex_alloc ?_ _))) (f74.out.ex (by (try show Ex _ _); with_reducible repeat (first | exact ex_refl _ | assumption | refine ex_drewL ?_ | refine ex_appR ?_ _ | refine ex_wx ?_ _ | refine ex_drew ?_ | refine ex_alloc ?_ _)))).mono ?_); rintro e w' ⟨rfl, X23, rfl⟩) | (go_at_call 21; (with_reducible refine (HPv2.out _ (by (try show Ex _ _); with_reducible repeat (first | exact ex_refl _ | assumption | refine ex_drewL ?_ | refine ex_appR ?_ _ | refine ex_wx ?_ _ | refine ex_drew ?_ | refine ex_alloc ?_ _))).mono ?_); rintro e w' ⟨pa8, pc8, qa8, qc8, rfl, ⟨g1, g2, g3, g4⟩, ⟨g5, g6, g7, g8⟩, X24, rfl⟩; (try simp only [wx_wx, wx_drew] at g4 g8); replace g4 := Lib.hid g4; replace g8 := Lib.hid g8) | (go_at_call 14; (with_reducible refine (HS8.out _ _ _ _ _ (by (try show Ex _ _); with_reducible repeat (first | exact ex_refl _ | assumption | refine ex_drewL ?_ | refine ex_appR ?_ _ | refine ex_wx ?_ _ | refine ex_drew ?_ | refine ex_alloc ?_ _)) g1 g2 (g4.out.ex (by (try show Ex _ _); with_reducible repeat (first | exact ex_refl _ | assumption | refine ex_drewL ?_ | refine ex_appR ?_ _ | refine ex_wx ?_ _ | refine ex_drew ?_ | refine ex_alloc ?_ _))) g5 g6 (g8.out.ex (by (try show Ex _ _); with_reducible repeat (first | exact ex_refl _ | assumption | refine ex_drewL ?_ | refine ex_appR ?_ _ | refine ex_wx ?_ _ | refine ex_drew ?_ | refine ex_alloc ?_ _)))).mono ?_); rintro e w' ⟨v9, rfl, h9, X25, rfl⟩; (try simp only [wx_wx, wx_drew] at h9); obtain ⟨a9, c9, rfl, f91, f92, _, f94⟩ := h9.slg; clear h9; replace f94 := Lib.hid f94) | (go_at_call 18; (with_reducible refine (HE9.out _ _ _ _ _ f91 f92 hin1 hin2 (f94.out.ex (by (try show Ex _ _); with_reducible repeat (first | exact ex_refl _ | assumption | refine ex_drewL ?_ | refine ex_appR ?_ _ | refine ex_wx ?_ _ | refine ex_drew ?_ | refine ex_alloc ?_ _))) (hin4.out.ex (by (try show Ex _ _); with_reducible repeat (first | exact ex_refl _ | assumption | refine ex_drewL ?_ | refine ex_appR ?_ _ | refine ex_wx ?_ _ | refine ex_drew ?_ | refine ex_alloc ?_ _)))).mono ?_); rintro e w' ⟨rfl, X26, rfl⟩) | (go_at_call 22; (with_reducible refine (HWd.out _).mono ?_); rintro e w' ⟨rfl, X27, rfl⟩))
                  go_ret
                  exact post_mk rfl (ex_trans hwC.out (by (try show Ex _ _); with_reducible repeat (first | exact ex_refl _ | assumption | refine ex_drewL ?_ | refine ex_appR ?_ _ | refine ex_wx ?_ _ | refine ex_drew ?_ | refine ex_alloc ?_ _)))
        | true =>
          go_wp2_with (first | (go_at_call 14; (with_reducible refine (HS1.out _ (by (try show Ex _ _); with_reducible repeat (first | exact ex_refl _ | assumption | refine ex_drewL ?_ | refine ex_appR ?_ _ | refine ex_wx ?_ _ | refine ex_drew ?_ | refine ex_alloc ?_ _))).mono ?_); rintro e w' ⟨v5, rfl, h5, X20, rfl⟩; (try simp only [wx_wx, wx_drew] at h5); obtain ⟨a5, c5, rfl, f51, f52, _, f54⟩ := h5.slg; clear h5; replace f54 := Lib.hid f54) | (go_at_call 15; (with_reducible refine (HSp.out _ (by (try show Ex _ _); with_reducible repeat (first | exact ex_refl _ | assumption | refine ex_drewL ?_ | refine ex_appR ?_ _ | refine ex_wx ?_ _ | refine ex_drew ?_ | refine ex_alloc ?_ _))).mono ?_); rintro e w' ⟨sa, sb, rfl, ⟨X5, rfl⟩, hcs⟩; (try simp only [wx_wx, wx_drew] at hcs); obtain ⟨s1, s2⟩ := hcs.one; replace hcs := Lib.hid hcs) | (go_at_call 16; (with_reducible refine (HIs.out _ _ _ (by (try show Ex _ _); with_reducible repeat (first | exact ex_refl _ | assumption | refine ex_drewL ?_ | refine ex_appR ?_ _ | refine ex_wx ?_ _ | refine ex_drew ?_ | refine ex_alloc ?_ _)) (hcs.out.ex (by (try show Ex _ _); with_reducible repeat (first | exact ex_refl _ | assumption | refine ex_drewL ?_ | refine ex_appR ?_ _ | refine ex_wx ?_ _ | refine ex_drew ?_ | refine ex_alloc ?_ _)))).mono ?_); rintro e w' ⟨rfl, X5b, rfl⟩))
          refine wp_worldC fun C hC => ?_
          have hBC : Ex B C := by rw [← hC]; exact (by (try show Ex _ _); with_reducible repeat (first | exact ex_refl _ | assumption | refine ex_drewL ?_ | refine ex_appR ?_ _ | refine ex_wx ?_ _ | refine ex_drew ?_ | refine ex_alloc ?_ _))
          have hwC : Hid (Ex w C) := Lib.hid (ex_trans hwB.out hBC)
          replace f54 := Lib.hid (f54.out.ex (w' := C) (by rw [← hC]; exact (by (try show Ex _ _); with_reducible repeat (first | exact ex_refl _ | assumption | refine ex_drewL ?_ | refine ex_appR ?_ _ | refine ex_wx ?_ _ | refine ex_drew ?_ | refine ex_alloc ?_ _))))
          replace t3 := cellsN_exF t3 tz hBC
          replace t4 := cellsN_exF t4 tz hBC
          replace t0 := (cellsN_some.1 t3).2 0 (by decide)
          replace tz := Nat.lt_of_lt_of_le tz (ex_size hBC)
          clear hC
          replace HL4 := Lib.hid (HL4.out.ex hBC)
          replace HRt := Lib.hid fun w' (k : Ex C w') => HRt.out w' (ex_trans hBC k)
          replace HVf := Lib.hid fun w' (k : Ex C w') => HVf.out w' (ex_trans hBC k)
          replace HPv := Lib.hid fun hr w' (k : Ex C w') => HPv.out hr w' (ex_trans hBC k)
          replace HS6 := Lib.hid fun hr w' (k : Ex C w') => HS6.out hr w' (ex_trans hBC k)
          replace HS8' := Lib.hid fun hr w' pa8 pc8 qa8 qc8 (k : Ex C w') => HS8'.out hr w' pa8 pc8 qa8 qc8 (ex_trans hBC k)
          clear HS1 HSp
          go_loopw [11, 57] (fun v i W' => ∃ k : Nat, k ≤ N ∧ i = I k ∧ Hid (OwnP W' C.heap.size v (amongL (lv.take k) R)) ∧ Ex C W') (fun _ i _ => N - (intOf i).toNat)
          case atStart => exact ⟨0, by omega, rfl, Lib.hid (ownp_nil _ _), (by (try show Ex _ _); with_reducible repeat (first | exact ex_refl _ | assumption | refine ex_drewL ?_ | refine ex_appR ?_ _ | refine ex_wx ?_ _ | refine ex_drew ?_ | refine ex_alloc ?_ _))⟩
          case round =>
            obtain ⟨k, hk, rfl, HO, ⟨X6, rfl⟩⟩ := hrel
            by_cases hlt : k < N
            · obtain ⟨g, off, hla, hg, hcell⟩ := HL4.out.pos (by rw [HN.out]; omega)
              cases hla
              obtain ⟨⟨x, y⟩, hxy⟩ : ∃ p, lv[k]? = some p := ⟨_, List.getElem?_eq_getElem (by rw [HN.out]; omega)⟩
              have hc1 : cellsN C g (off + k * 2) 2 = some #[.string x, .string y] := hcell k _ hxy
              have hl0 : ((amongL (lv.take k) R).length) ≤ k := Nat.le_trans (amongL_len _ _) (by rw [List.length_take]; omega)
              have HI := Lib.hid (fun w' => in_any R x w')
              unfold RC at HI
              have HT : Hid (amongL (lv.take (k + 1)) R = amongL (lv.take k) R ++ (if inP R x then [(x, y)] else [])) := Lib.hid (by
                obtain ⟨h1, h2⟩ := List.getElem?_eq_some_iff.1 hxy
                unfold amongL
                rw [List.take_succ_eq_append_getElem h1, List.filter_append, h2, List.filter_cons, List.filter_nil])
              generalize inP R x = b at HI HT
              clear hcell hxy
              cases b with
              | false =>
                have HT2 : Hid (amongL (lv.take (k + 1)) R = amongL (lv.take k) R) := Lib.hid (by have := HT.out; simpa using this)
                go_wp2_with (go_at_call 17; (with_reducible refine (HI.out _).mono ?_); rintro e w2 ⟨rfl, X3, rfl⟩)
                exact ⟨⟨k + 1, by omega, by go_num, Lib.hid (by rw [HT2.out]; exact HO.out.ex (by (try show Ex _ _); with_reducible repeat (first | exact ex_refl _ | assumption | refine ex_drewL ?_ | refine ex_appR ?_ _ | refine ex_wx ?_ _ | refine ex_drew ?_ | refine ex_alloc ?_ _))), (by (try show Ex _ _); with_reducible repeat (first | exact ex_refl _ | assumption | refine ex_drewL ?_ | refine ex_appR ?_ _ | refine ex_wx ?_ _ | refine ex_drew ?_ | refine ex_alloc ?_ _))⟩, by simp [intOf]; omega⟩
              | true =>
                have HT2 : Hid (amongL (lv.take (k + 1)) R = amongL (lv.take k) R ++ [(x, y)]) := Lib.hid (by have := HT.out; simpa using this)
                have hsl1 := Lib.hid (fun (w0 : World) w' (gg : Nat) (k' : Ex (w0.alloc (.cells #[.string x, .string y] 42)) w') (hgg : gg = w0.heap.size) => slp_oneF (x, y) k' hgg)
                go_wp2_with (first | (go_at_call 17; (with_reducible refine (HI.out _).mono ?_); rintro e w2 ⟨rfl, X3, rfl⟩) | (at_builtin; refine wpAppP (r := [(x, y)]) _ _ rfl rfl (HO.out.ex (by (try show Ex _ _); with_reducible repeat (first | exact ex_refl _ | assumption | refine ex_drewL ?_ | refine ex_appR ?_ _ | refine ex_wx ?_ _ | refine ex_drew ?_ | refine ex_alloc ?_ _))) rfl rfl rfl (hsl1.out _ _ _ (by (try show Ex _ _); with_reducible repeat (first | exact ex_refl _ | assumption | refine ex_drewL ?_ | refine ex_appR ?_ _ | refine ex_wx ?_ _ | refine ex_drew ?_ | refine ex_alloc ?_ _)) (by simp [go_sem])) (by simp only [List.length_singleton]; omega) (by simp [go_sem] <;> omega) (fun v1 w1 hown1 hbe => ?_); obtain ⟨X8, rfl⟩ := exOf (A := C) (by (try show Ex _ _); with_reducible repeat (first | exact ex_refl _ | assumption | refine ex_drewL ?_ | refine ex_appR ?_ _ | refine ex_wx ?_ _ | refine ex_drew ?_ | refine ex_alloc ?_ _)) hbe; rw [← HT2.out] at hown1; replace hown1 := Lib.hid hown1))
                exact ⟨⟨k + 1, by omega, by go_num, hown1, (by (try show Ex _ _); with_reducible repeat (first | exact ex_refl _ | assumption | refine ex_drewL ?_ | refine ex_appR ?_ _ | refine ex_wx ?_ _ | refine ex_drew ?_ | refine ex_alloc ?_ _))⟩, by simp [intOf]; omega⟩
            · obtain rfl : k = N := by omega
              have HO2 := HO.out
              rw [List.take_of_length_le (Nat.le_of_eq HN.out)] at HO2
              obtain ⟨ia, ic, hiv, hin1, hin2, _, hin4'⟩ := HO2.slg
              subst hiv
              have hin4 := Lib.hid hin4'
              clear hlt hk HO HO2 hin4'
              cases hr : rightP lv with
              | false =>
                simp only [hr, Bool.false_eq_true, if_false] at HRt
                go_wp2_with (go_at_call 19; (with_reducible refine (HRt.out _ (by (try show Ex _ _); with_reducible repeat (first | exact ex_refl _ | assumption | refine ex_drewL ?_ | refine ex_appR ?_ _ | refine ex_wx ?_ _ | refine ex_drew ?_ | refine ex_alloc ?_ _))).mono ?_); rintro e w' ⟨rfl, X31, rfl⟩)
                go_ret
                exact post_mk rfl (ex_trans hwC.out (by (try show Ex _ _); with_reducible repeat (first | exact ex_refl _ | assumption | refine ex_drewL ?_ | refine ex_appR ?_ _ | refine ex_wx ?_ _ | refine ex_drew ?_ | refine ex_alloc ?_ _)))
              | true =>
                have hr2 := hr
                have HPv2 := Lib.hid (HPv.out hr)
                have HS8 := Lib.hid (HS8'.out hr)
                have HS62 := HS6.out hr
                clear HS6
                have HS6 := Lib.hid HS62
                clear HS62
                simp only [if_pos hr] at HRt
                clear hr2 HPv HS8' F1 F2 F3
                go_wp2_with (first | (go_at_call 18; (with_reducible refine (HE1.out _ _ _ _ _ f51 f52 hin1 hin2 (f54.out.ex (by (try show Ex _ _); with_reducible repeat (first | exact ex_refl _ | assumption | refine ex_drewL ?_ | refine ex_appR ?_ _ | refine ex_wx ?_ _ | refine ex_drew ?_ | refine ex_alloc ?_ _))) (hin4.out.ex (by (try show Ex _ _); with_reducible repeat (first | exact ex_refl _ | assumption | refine ex_drewL ?_ | refine ex_appR ?_ _ | refine ex_wx ?_ _ | refine ex_drew ?_ | refine ex_alloc ?_ _)))).mono ?_); rintro e w' ⟨rfl, X30, rfl⟩) | (go_at_call 19; (with_reducible refine (HRt.out _ (by (try show Ex _ _); with_reducible repeat (first | exact ex_refl _ | assumption | refine ex_drewL ?_ | refine ex_appR ?_ _ | refine ex_wx ?_ _ | refine ex_drew ?_ | refine ex_alloc ?_ _))).mono ?_); rintro e w' ⟨rfl, X31, rfl⟩))
                have tokS : True := trivial
                have tokE : True := trivial
                cases o2 with
                | none =>
                  simp only [errV, Option.getD_some, Option.getD_none, Option.isSome_some, Option.isSome_none, List.length_nil] at HVf HS6 HE7
                  go_wp2_with (first | (go_at_call 14; have _t := tokS; clear tokS; (with_reducible refine (HS6.out _ (by (try show Ex _ _); with_reducible repeat (first | exact ex_refl _ | assumption | refine ex_drewL ?_ | refine ex_appR ?_ _ | refine ex_wx ?_ _ | refine ex_drew ?_ | refine ex_alloc ?_ _))).mono ?_); rintro e w' ⟨v6, rfl, h6, X21, rfl⟩; (try simp only [wx_wx, wx_drew] at h6); obtain ⟨a6, c6, rfl, f61, f62, _, f64⟩ := h6.slg; clear h6; (try simp only [List.length_nil] at f61); replace f64 := Lib.hid f64) | (go_at_call 20; (with_reducible refine (HVf.out _ (by (try show Ex _ _); with_reducible repeat (first | exact ex_refl _ | assumption | refine ex_drewL ?_ | refine ex_appR ?_ _ | refine ex_wx ?_ _ | refine ex_drew ?_ | refine ex_alloc ?_ _))).mono ?_); rintro e w' ⟨v7, rfl, h7, X22, rfl⟩; (try simp only [wx_wx, wx_drew] at h7); obtain ⟨a7, c7, rfl, f71, f72, _, f74⟩ := h7.slg; clear h7; (try simp only [List.length_nil] at f71); replace f74 := Lib.hid f74) | (go_at_call 18; have _t := tokE; clear tokE; (with_reducible refine (HE7.out _ _ _ _ _ f61 f62 f71 f72 (f64.out.ex (by (try show Ex _ _); with_reducible repeat (first | exact ex_refl _ | assumption | refine ex_drewL ?_ | refine ex_appR ?_ _ | refine ex_wx ?_ _ | refine ex_drew ?_ | refine ex_alloc ?_ _))) (f74.out.ex (by (try show Ex _ _); with_reducible repeat (first | exact ex_refl _ | assumption | refine ex_drewL ?_ | refine ex_appR ?_ _ | refine ex_wx ?_ _ | refine ex_drew ?_ | refine ex_alloc ?_ _)))).mono ?_); rintro e w' ⟨rfl, X23, rfl⟩) | (go_at_call 21; (with_reducible refine (HPv2.out _ (by (try show Ex _ _); with_reducible repeat (first | exact ex_refl _ | assumption | refine ex_drewL ?_ | refine ex_appR ?_ _ | refine ex_wx ?_ _ | refine ex_drew ?_ | refine ex_alloc ?_ _))).mono ?_); rintro e w' ⟨pa8, pc8, qa8, qc8, rfl, ⟨g1, g2, g3, g4⟩, ⟨g5, g6, g7, g8⟩, X24, rfl⟩; (try simp only [wx_wx, wx_drew] at g4 g8); replace g4 := Lib.hid g4; replace g8 := Lib.hid g8) | (go_at_call 14; (with_reducible refine (HS8.out _ _ _ _ _ (by (try show Ex _ _); with_reducible repeat (first | exact ex_refl _ | assumption | refine ex_drewL ?_ | refine ex_appR ?_ _ | refine ex_wx ?_ _ | refine ex_drew ?_ | refine ex_alloc ?_ _)) g1 g2 (g4.out.ex (by (try show Ex _ _); with_reducible repeat (first | exact ex_refl _ | assumption | refine ex_drewL ?_ | refine ex_appR ?_ _ | refine ex_wx ?_ _ | refine ex_drew ?_ | refine ex_alloc ?_ _))) g5 g6 (g8.out.ex (by (try show Ex _ _); with_reducible repeat (first | exact ex_refl _ | assumption | refine ex_drewL ?_ | refine ex_appR ?_ _ | refine ex_wx ?_ _ | refine ex_drew ?_ | refine ex_alloc ?_ _)))).mono ?_); rintro e w' ⟨v9, rfl, h9, X25, rfl⟩; (try simp only [wx_wx, wx_drew] at h9); obtain ⟨a9, c9, rfl, f91, f92, _, f94⟩ := h9.slg; clear h9; replace f94 := Lib.hid f94) | (go_at_call 18; (with_reducible refine (HE9.out _ _ _ _ _ f91 f92 hin1 hin2 (f94.out.ex (by (try show Ex _ _); with_reducible repeat (first | exact ex_refl _ | assumption | refine ex_drewL ?_ | refine ex_appR ?_ _ | refine ex_wx ?_ _ | refine ex_drew ?_ | refine ex_alloc ?_ _))) (hin4.out.ex (by (try show Ex _ _); with_reducible repeat (first | exact ex_refl _ | assumption | refine ex_drewL ?_ | refine ex_appR ?_ _ | refine ex_wx ?_ _ | refine ex_drew ?_ | refine ex_alloc ?_ _)))).mono ?_); rintro e w' ⟨rfl, X26, rfl⟩) | (go_at_call 22; (with_reducible refine (HWd.out _).mono ?_); rintro e w' ⟨rfl, X27, rfl⟩))
                  go_ret
                  exact post_mk rfl (ex_trans hwC.out (by (try show Ex _ _); with_reducible repeat (first | exact ex_refl _ | assumption | refine ex_drewL ?_ | refine ex_appR ?_ _ | refine ex_wx ?_ _ | refine ex_drew ?_ | refine ex_alloc ?_ _)))
                | some z =>
                  simp only [errV, Option.getD_some, Option.getD_none, Option.isSome_some, Option.isSome_none, List.length_nil] at HVf HS6 HE7
                  go_wp2_with (first | (go_at_call 14; have _t := tokS; clear tokS; (with_reducible refine (HS6.out _ (by (try show Ex _ _); with_reducible repeat (first | exact ex_refl _ | assumption | refine ex_drewL ?_ | refine ex_appR ?_ _ | refine ex_wx ?_ _ | refine ex_drew ?_ | refine ex_alloc ?_ _))).mono ?_); rintro e w' ⟨v6, rfl, h6, X21, rfl⟩; (try simp only [wx_wx, wx_drew] at h6); obtain ⟨a6, c6, rfl, f61, f62, _, f64⟩ := h6.slg; clear h6; (try simp only [List.length_nil] at f61); replace f64 := Lib.hid f64) | (go_at_call 20; (with_reducible refine (HVf.out _ (by (try show Ex _ _); with_reducible repeat (first | exact ex_refl _ | assumption | refine ex_drewL ?_ | refine ex_appR ?_ _ | refine ex_wx ?_ _ | refine ex_drew ?_ | refine ex_alloc ?_ _))).mono ?_); rintro e w' ⟨v7, rfl, h7, X22, rfl⟩; (try simp only [wx_wx, wx_drew] at h7); obtain ⟨a7, c7, rfl, f71, f72, _, f74⟩ := h7.slg; clear h7; (try simp only [List.length_nil] at f71); replace f74 := Lib.hid f74) | (go_at_call 18; have _t := tokE; clear tokE; (with_reducible refine (HE7.out _ _ _ _ _ f61 f62 f71 f72 (f64.out.ex (by (try show Ex _ _); with_reducible repeat (first | exact ex_refl _ | assumption | refine ex_drewL ?_ | refine ex_appR ?_ _ | refine ex_wx ?_ _ | refine ex_drew ?_ | refine ex_alloc ?_ _))) (f74.out.ex (by (try show Ex _ _); with_reducible repeat (first | exact ex_refl _ | assumption | refine ex_drewL ?_ | refine ex_appR ?_ _ | refine ex_wx ?_ _ | refine ex_drew ?_ | refine ex_alloc ?_ _)))).mono ?_); rintro e w' ⟨rfl, X23, rfl⟩) | (go_at_call 21; (with_reducible refine (HPv2.out _ (by (try show Ex _ _); with_reducible repeat (first | exact ex_refl _ | assumption | refine ex_drewL ?_ | refine ex_appR ?_ _ | refine ex_wx ?_ _ | refine ex_drew ?_ | refine ex_alloc ?_ _))).mono ?_); rintro e w' ⟨pa8, pc8, qa8, qc8, rfl, ⟨g1, g2, g3, g4⟩, ⟨g5, g6, g7, g8⟩, X24, rfl⟩; (try simp only [wx_wx, wx_drew] at g4 g8); replace g4 := Lib.hid g4; replace g8 := Lib.hid g8) | (go_at_call 14; (with_reducible refine (HS8.out _ _ _ _ _ (by (try show Ex _ _); with_reducible repeat (first | exact ex_refl _ | assumption | refine ex_drewL ?_ | refine ex_appR ?_ _ | refine ex_wx ?_ _ | refine ex_drew ?_ | refine ex_alloc ?_ _)) g1 g2 (g4.out.ex (by (try show Ex _ _); with_reducible repeat (first | exact ex_refl _ | assumption | refine ex_drewL ?_ | refine ex_appR ?_ _ | refine ex_wx ?_ _ | refine ex_drew ?_ | refine ex_alloc ?_ _))) g5 g6 (g8.out.ex (by (try show Ex _ _); with_reducible repeat (first | exact ex_refl _ | assumption | refine ex_drewL ?_ | refine ex_appR ?_ _ | refine ex_wx ?_ _ | refine ex_drew ?_ | refine ex_alloc ?_ _)))).mono ?_); rintro e w' ⟨v9, rfl, h9, X25, rfl⟩; (try simp only [wx_wx, wx_drew] at h9); obtain ⟨a9, c9, rfl, f91, f92, _, f94⟩ := h9.slg; clear h9; replace f94 := Lib.hid f94) | (go_at_call 18; (with_reducible refine (HE9.out _ _ _ _ _ f91 f92 hin1 hin2 (f94.out.ex (by (try show Ex _ _); with_reducible repeat (first | exact ex_refl _ | assumption | refine ex_drewL ?_ | refine ex_appR ?_ _ | refine ex_wx ?_ _ | refine ex_drew ?_ | refine ex_alloc ?_ _))) (hin4.out.ex (by (try show Ex _ _); with_reducible repeat (first | exact ex_refl _ | assumption | refine ex_drewL ?_ | refine ex_appR ?_ _ | refine ex_wx ?_ _ | refine ex_drew ?_ | refine ex_alloc ?_ _)))).mono ?_); rintro e w' ⟨rfl, X26, rfl⟩) | (go_at_call 22; (with_reducible refine (HWd.out _).mono ?_); rintro e w' ⟨rfl, X27, rfl⟩))
                  go_ret
                  exact post_mk rfl (ex_trans hwC.out (by (try show Ex _ _); with_reducible repeat (first | exact ex_refl _ | assumption | refine ex_drewL ?_ | refine ex_appR ?_ _ | refine ex_wx ?_ _ | refine ex_drew ?_ | refine ex_alloc ?_ _)))
end Go.Proofs.YtcdocklbpfdmeaaDoor
