import Derived.Test.YtcdocklbpfdmeaaDoorMCoE
import Derived.Test.YtcdocklbpfdmeaaDoorMForkH

/- Collide: climb. -/
set_option linter.unusedSimpArgs false
set_option linter.unusedVariables false
set_option linter.unnecessarySimpa false
set_option maxRecDepth 20000
namespace Go.Proofs.YtcdocklbpfdmeaaDoor
open Go.RowKit
def PostKO (p W : Nat) (w : World) (o : Option (Dg × Cl)) (e : Ending) (w' : World) : Prop := match o with
  | some x => PostK p W w (.agg (rowB 32 (dF x.1))) x.2 e w'
  | none => e = offE ∧ FrP p w w' ∧ ∃ c, Wk w' p W c
theorem wclimb1_any {w0 A : World} (G : Glob w0) (k0 : Ex w0 A) (W : Nat) (hW : W ≤ 256) {p : Nat} (hp : A.heap.size ≤ p) {b x : List UInt8} (hb : b.length ≤ 90) (hx : x.length ≤ 90) {bv : Value} (hbv : SlT A bv b) {la : Option Addr} {lc : Nat} (hls : SlLs A la [x]) (hlc : 1 ≤ lc) (hlm : lc ≤ maxLen)
    (i : Int) (path : List Dg) (pa : Option Addr) (pc : Nat) (c : Cl) (w : World) (kA : Ex A w) (hk : Wk w p W c) :
    Calls Tryd.prog 114 #[.pointer (some ⟨p, 0, none⟩), .slice la 1 lc, I i, bv, .slice pa path.length pc] w (PostKO p W w (if path = [] then some (putC (sumW W) (zL b) (zL x) c) else none)) := by
  unfold maxLen at hlm
  cases path with
  | cons y path =>
    have hl : ((path.length + 1 : Nat) : Int) > 0 := by omega
    have hd : decide ((0 : Int) < ((path.length + 1 : Nat) : Int)) = true := decide_eq_true hl
    rw [if_neg (by simp), List.length_cons]
    generalize path.length = n at *
    have HK := Lib.hid hk
    clear hk hls hbv
    go_enter Tryd.func114, Tryd.ntmps114
    go_wp2
    exact ⟨rfl, rfl, Frm.ex (by (try show Ex _ _); with_reducible repeat (first | exact ex_refl _ | assumption | refine ex_drewL ?_ | refine ex_appR ?_ _ | refine ex_wx ?_ _ | refine ex_drew ?_ | refine ex_alloc ?_ _)), c, HK.out.ex (by (try show Ex _ _); with_reducible repeat (first | exact ex_refl _ | assumption | refine ex_drewL ?_ | refine ex_appR ?_ _ | refine ex_wx ?_ _ | refine ex_drew ?_ | refine ex_alloc ?_ _))⟩
  | nil =>
    rw [if_pos rfl]
    obtain ⟨g, off, rfl, hg, hcell⟩ := hls.pos (by simp)
    obtain ⟨xv, h1, hxv⟩ := hcell 0 x rfl
    rw [Nat.add_zero] at h1
    have HL1 : Hid (∀ w', Ex A w' → Calls Tryd.prog 118 #[bv] w' (PostU w' (zL b))) := Lib.hid fun w' k => leafB_any (by omega) w' (hbv.ex k)
    have HL2 : Hid (∀ w', Ex A w' → Calls Tryd.prog 118 #[xv] w' (PostU w' (zL x))) := Lib.hid fun w' k => leafB_any (by omega) w' (hxv.ex k)
    have HP : Hid (∀ w' v u, Ex w w' → OwnU w' v (zL b) → OwnU w' u (zL x) → Calls Tryd.prog 100 #[.pointer (some ⟨p, 0, none⟩), v, u] w' (PostK p W w' (.agg (rowB 32 (dF (putC (sumW W) (zL b) (zL x) c).1))) (putC (sumW W) (zL b) (zL x) c).2)) :=
      Lib.hid fun w' v u k h1 h2 => put_any G W hW (ex_trans k0 (ex_trans kA k)) (hk.ex k) h1 h2 (by unfold zL; simp; omega) (by unfold zL; simp; omega)
    unfold PostKO
    simp only
    generalize putC (sumW W) (zL b) (zL x) c = o at HP ⊢
    obtain ⟨z, c'⟩ := o
    simp only at HP ⊢
    obtain ⟨P, hP⟩ : ∃ P : Nat → Prop, P = fun k => k = p ∨ k = w.heap.size := ⟨_, rfl⟩
    have hpw := hk.lt
    have hgp : ¬ P g := by rw [hP]; have := ex_size kA; rintro (e | e) <;> omega
    have SQ : Hid (∀ w5, FrP p (w.alloc (.cells (rowB 32 fun _ => 0) 46)) w5 → Frm P (w.alloc (.cells (rowB 32 fun _ => 0) 46)) w5) := Lib.hid fun w5 F => F.mono fun b e => by rw [hP]; exact Or.inl e
    have SP : Hid (∀ w5, FrP p (w.alloc (.cells (rowB 32 fun _ => 0) 46)) w5 → ∀ vs, Frm P (w.alloc (.cells (rowB 32 fun _ => 0) 46)) (w5.setCells w.heap.size 0 vs)) := Lib.hid fun w5 F vs => (SQ.out w5 F).sets (b := w.heap.size) (by rw [hP]; exact Or.inr rfl) 0 vs
    have HE := Lib.hid (fun w5 c5 => k_end (p := p) (W := W) (r := w.heap.size) (w := w) (A := w.alloc (.cells (rowB 32 fun _ => 0) 46)) (w5 := w5) (c := c5) (Nat.le_refl _) (heap_alloc_new _ _) (ex_alloc (ex_refl _) _))
    have hgw : w.cell? ⟨g, off, none⟩ = some xv := by obtain ⟨X, rfl⟩ := kA; rw [wx_cell A X _ hg]; exact h1
    have hgz : g < w.heap.size := Nat.lt_of_lt_of_le hg (ex_size kA)
    have hxo : xv.oneCell' = true := by obtain ⟨_, _, rfl, _⟩ := hxv.out; rfl
    clear hcell hls hk hP hbv hxv h1
    go_enter Tryd.func114, Tryd.ntmps114
    go_wp2
    have tok : True := trivial
    refine wp_region_forkH (fun w' => ∃ X, w' = kp (w.alloc (.cells (rowB 32 fun _ => 0) 46)) P X) (.look 0 (.look 1 (.look 3 (.look 4 (.look 5 (.eff 2 (.eff 6 (.eff 7 (.eff 8 .done))))))))) (⟨_, kp_of (fun _ _ _ => rfl)⟩) (by kernel_rfl) (by kernel_rfl) (fun _ _ d _ _ h => by cases d <;> exact h) ?_
    simp only [Fk.ops, nth]
    repeat (first | ((with_reducible refine wpForkH_look ?_); go_big_quiet_step (fail); (try (with_reducible refine wpQuiet_nil ?_))) | (with_reducible refine wpForkH_eff ?_) | ((with_reducible refine effH_F ?_ ?_); (focus rfl); go_simp) | ((with_reducible refine effH_T ?_ ?_); (focus rfl); (try dsimp only); go_wp2_with (first | (go_at_call 118; have _t := tok; clear tok; (with_reducible refine (HL1.out _ (by (try show Ex _ _); with_reducible repeat (first | exact ex_refl _ | assumption | refine ex_drewL ?_ | refine ex_appR ?_ _ | refine ex_wx ?_ _ | refine ex_drew ?_ | refine ex_alloc ?_ _))).mono ?_); rintro e w2 ⟨v1, rfl, hv1, X, rfl⟩; (try simp only [wx_wx, wx_drew] at hv1)) | (go_at_call 118; (with_reducible refine (HL2.out _ (by (try show Ex _ _); with_reducible repeat (first | exact ex_refl _ | assumption | refine ex_drewL ?_ | refine ex_appR ?_ _ | refine ex_wx ?_ _ | refine ex_drew ?_ | refine ex_alloc ?_ _))).mono ?_); rintro e w2 ⟨v2, rfl, hv2, X, rfl⟩; (try simp only [wx_wx, wx_drew] at hv2)) | (go_at_call 100; (with_reducible refine (HP.out _ _ _ (by (try show Ex _ _); with_reducible repeat (first | exact ex_refl _ | assumption | refine ex_drewL ?_ | refine ex_appR ?_ _ | refine ex_wx ?_ _ | refine ex_drew ?_ | refine ex_alloc ?_ _)) (OwnU.ex hv1 (by (try show Ex _ _); with_reducible repeat (first | exact ex_refl _ | assumption | refine ex_drewL ?_ | refine ex_appR ?_ _ | refine ex_wx ?_ _ | refine ex_drew ?_ | refine ex_alloc ?_ _))) (OwnU.ex hv2 (by (try show Ex _ _); with_reducible repeat (first | exact ex_refl _ | assumption | refine ex_drewL ?_ | refine ex_appR ?_ _ | refine ex_wx ?_ _ | refine ex_drew ?_ | refine ex_alloc ?_ _)))).mono ?_); rintro e w5 ⟨rfl, F5', K5⟩; have F5 : FrP p (w.alloc (.cells (rowB 32 fun _ => 0) 46)) w5 := (Frm.ex (by (try show Ex _ _); with_reducible repeat (first | exact ex_refl _ | assumption | refine ex_drewL ?_ | refine ex_appR ?_ _ | refine ex_wx ?_ _ | refine ex_drew ?_ | refine ex_alloc ?_ _))).trans F5'; obtain ⟨⟨n5, f5, z5⟩, HX⟩ := HE.out w5 _ F5 K5 (Nat.ne_of_gt hpw); replace HX := Lib.hid HX)); (first | done | refine mixQH_mk (⟨_, kpF (by first | exact SP.out _ F5 _ | exact SQ.out _ F5 | exact Frm.ex (by (try show Ex _ _); with_reducible repeat (first | exact ex_refl _ | assumption | refine ex_drewL ?_ | refine ex_appR ?_ _ | refine ex_wx ?_ _ | refine ex_drew ?_ | refine ex_alloc ?_ _)))⟩) ?_)))
    all_goals (with_reducible refine wpForkH_nil ?_)
    go_wp2
    obtain ⟨x1, x2, x3⟩ := HX.out z
    exact ret_row Tryd.results114 Tryd.underlying46 rfl info_id rfl x1 rfl ⟨rfl, x2, x3⟩
set_option maxHeartbeats 1000000 in
theorem wclimb_any {w0 A : World} (G : Glob w0) (k0 : Ex w0 A) (W : Nat) (hW : W ≤ 256) {p : Nat} (hp : A.heap.size ≤ p) {b : List UInt8} (hb : b.length ≤ 90) {bv : Value} (hbv : SlT A bv b) (N : Nat) : ∀ (l : List (List UInt8)) (la : Option Addr) (lc : Nat) (i : Nat) (path : List Dg) (pa : Option Addr) (pc : Nat) (c : Cl) (w : World),
    l.length = N → 1 ≤ N → N ≤ 1024 → N ≤ lc → lc ≤ maxLen → SlLs A la l → ShortL l → i < N → path.length ≤ pc → pc ≤ maxLen → SlD A pa path → Ex A w → Wk w p W c →
    Calls Tryd.prog 114 #[.pointer (some ⟨p, 0, none⟩), .slice la N lc, I i, bv, .slice pa path.length pc] w (PostKO p W w (climbC (sumW W) l i b path c)) := by
  induction N using Nat.strongRecOn with
  | ind N ih =>
    intro l la lc i path pa pc c w hl hN1 hN hlc hlm hls hsh hi hpc hpm hpath kA hk
    rcases Nat.lt_or_ge N 2 with h2 | h2
    · obtain rfl : N = 1 := by omega
      obtain ⟨x, rfl⟩ := List.length_eq_one_iff.1 hl
      rw [climbC_one (by simp)]
      exact wclimb1_any G k0 W hW hp hb (hsh x (by simp)) hbv hls hlc hlm i path pa pc c w kA hk
    · have hk1 := split_lt (n := N) h2
      have hk2 := split_pos N
      have hpw := hk.lt
      have e0 : ((N : Int) == 1) = false := beq_eq_false_iff_ne.2 (by omega)
      rcases snoc_cases path with rfl | ⟨r, y, rfl⟩
      · rw [climbC_nil (by omega)]
        have HR := Lib.hid (fun w => rest_none pa pc w)
        have HK := Lib.hid hk
        clear ih hk hls hbv hpath
        go_enter Tryd.func114, Tryd.ntmps114
        go_wp2_with (go_at_call 142; (with_reducible refine (HR.out _).mono ?_); rintro e w2 ⟨rfl, k2⟩; dsimp only [offE])
        exact ⟨rfl, rfl, Frm.ex (ex_trans (by (try show Ex _ _); with_reducible repeat (first | exact ex_refl _ | assumption | refine ex_drewL ?_ | refine ex_appR ?_ _ | refine ex_wx ?_ _ | refine ex_drew ?_ | refine ex_alloc ?_ _)) k2), c, HK.out.ex (ex_trans (by (try show Ex _ _); with_reducible repeat (first | exact ex_refl _ | assumption | refine ex_drewL ?_ | refine ex_appR ?_ _ | refine ex_wx ?_ _ | refine ex_drew ?_ | refine ex_alloc ?_ _)) k2)⟩
      · have hrl : (r ++ [y]).length = r.length + 1 := by simp
        rw [hrl] at hpc ⊢
        obtain ⟨g, off, rfl, hg, hcell⟩ := hls.pos (by omega)
        clear hcell
        have HR := Lib.hid (fun w' (k : Ex A w') => rest_some r y pa pc w' hpc hpm (hpath.ex k))
        have HSp := Lib.hid (fun w => split_at N w h2 hN)
        have HT : Hid (∀ w', Ex A w' → Calls Tryd.prog 76 #[I W, .slice (some ⟨g, off, none⟩) (splitN N) lc] w' (Post w' (.agg (rowB 32 (dF (rootC (sumW W) (l.take (splitN N)))))))) := Lib.hid fun w' k => by
          have := wroot_any G W hW (l.take (splitN N)) (some ⟨g, off, none⟩) lc w' (by rw [List.length_take]; omega) (by rw [List.length_take]; omega) hlm ((hls.take _).ex k) (fun b hb => hsh b (List.mem_of_mem_take hb)) (ex_trans k0 k)
          rwa [show (l.take (splitN N)).length = splitN N by rw [List.length_take]; omega] at this
        have HD : Hid (∀ w', Ex A w' → Calls Tryd.prog 76 #[I W, .slice (some ⟨g, off + splitN N, none⟩) (N - splitN N) (lc - splitN N)] w' (Post w' (.agg (rowB 32 (dF (rootC (sumW W) (l.drop (splitN N)))))))) := Lib.hid fun w' k => by
          have := wroot_any G W hW (l.drop (splitN N)) (some ⟨g, off + splitN N, none⟩) (lc - splitN N) w' (by rw [List.length_drop]; omega) (by rw [List.length_drop]; omega) (by omega) ((hls.drop _).ex k) (fun b hb => hsh b (List.mem_of_mem_drop hb)) (ex_trans k0 k)
          rwa [show (l.drop (splitN N)).length = N - splitN N by rw [List.length_drop]; omega] at this
        have H2 := Lib.hid (fun a b w => two_any a b w)
        have HP : Hid (∀ x y' rT rD c1 w' v u, Ex A w' → Wk w' p W c1 → OwnU w' v (twoL x y') → OwnU w' u (twoL rT rD) → Calls Tryd.prog 100 #[.pointer (some ⟨p, 0, none⟩), v, u] w' (PostK p W w' (.agg (rowB 32 (dF (putC (sumW W) (twoL x y') (twoL rT rD) c1).1))) (putC (sumW W) (twoL x y') (twoL rT rD) c1).2)) :=
          Lib.hid fun x y' rT rD c1 w' v u k h0 h1 h2 => put_any G W hW (ex_trans k0 k) h0 h1 h2 (by rw [twoL_len]; omega) (by rw [twoL_len]; omega)
        have hw0 := hk.width
        have HK := Lib.hid hk
        unfold maxLen at hlm hpm
        have e2 : (splitN N : Int) ≤ N := by omega
        have e3 : (splitN N : Int) ≤ lc := by omega
        have e4 : ¬ lc = splitN N := by omega
        have e5 : (N : Int) ≤ lc := by omega
        by_cases hik : i < splitN N
        · have HC : Hid (∀ w', Ex w w' → Calls Tryd.prog 114 #[.pointer (some ⟨p, 0, none⟩), .slice (some ⟨g, off, none⟩) (splitN N) lc, I i, bv, .slice pa r.length pc] w' (PostKO p W w' (climbC (sumW W) (l.take (splitN N)) i b r c))) :=
            Lib.hid fun w' k => ih _ hk1 _ _ lc i r pa pc c w' (by rw [List.length_take]; omega) (by omega) (by omega) (by omega) (by unfold maxLen; omega) (hls.take _) (fun b hb => hsh b (List.mem_of_mem_take hb)) hik (by omega) (by unfold maxLen; omega) (by have := hpath.take r.length; simpa using this) (ex_trans kA k) (hk.ex k)
          have hcl := climbC_lo (S := sumW W) (l := l) (by omega) (i := i) (by rw [hl]; exact hik) b r y c
          rw [hl] at hcl
          rw [hcl]
          clear hcl ih hls hpath hbv hk
          generalize climbC (sumW W) (l.take (splitN N)) i b r c = o at HC ⊢
          generalize rootC (sumW W) (l.take (splitN N)) = rT at HT ⊢
          generalize rootC (sumW W) (l.drop (splitN N)) = rD at HD ⊢
          generalize splitN N = k at *
          generalize r.length = rn at *
          have hik2 : (i : Int) < k := by omega
          cases o with
          | none =>
            have HC2 : Hid (∀ w', Ex w w' → Calls Tryd.prog 114 _ w' (fun e w2 => e = offE ∧ FrP p w' w2 ∧ ∃ c, Wk w2 p W c)) := HC
            rw [Option.map_none]
            go_enter Tryd.func114, Tryd.ntmps114
            go_wp2_with (first | (go_at_call 142; (with_reducible refine (HR.out _ (by (try show Ex _ _); with_reducible repeat (first | exact ex_refl _ | assumption | refine ex_drewL ?_ | refine ex_appR ?_ _ | refine ex_wx ?_ _ | refine ex_drew ?_ | refine ex_alloc ?_ _))).mono ?_); rintro e w2 ⟨rfl, XR, rfl⟩) | (go_at_call 133; (with_reducible refine (HSp.out _).mono ?_); rintro e w' ⟨rfl, rfl⟩))
            refine wp_region_seq [(0, true), (1, true), (2, true), (3, true), (4, true), (5, true), (6, true), (8, true), (9, true), (10, true), (11, true), (12, true), (13, true), (14, true), (7, false), (15, false), (16, false), (17, true)] (by kernel_rfl) (by kernel_rfl) (fun _ _ d _ _ h => by cases d <;> exact h) ?_
            simp only [List.map_cons, List.map_nil, nth]
            repeat (first | ((with_reducible refine wpSeq_look ?_); go_big_quiet_step (fail); (with_reducible refine wpQuiet_nil ?_)) | ((with_reducible refine wpSeq_effF ?_ ?_); (focus rfl); go_simp) | ((with_reducible refine wpSeq_eff ?_ ?_); (focus rfl); (try dsimp only); go_wp2_with (first | (go_at_call 76; (with_reducible refine (HT.out _ (by (try show Ex _ _); with_reducible repeat (first | exact ex_refl _ | assumption | refine ex_drewL ?_ | refine ex_appR ?_ _ | refine ex_wx ?_ _ | refine ex_drew ?_ | refine ex_alloc ?_ _))).mono ?_); rintro e w2 ⟨rfl, X, rfl⟩) | (go_at_call 76; (with_reducible refine (HD.out _ (by (try show Ex _ _); with_reducible repeat (first | exact ex_refl _ | assumption | refine ex_drewL ?_ | refine ex_appR ?_ _ | refine ex_wx ?_ _ | refine ex_drew ?_ | refine ex_alloc ?_ _))).mono ?_); rintro e w2 ⟨rfl, X, rfl⟩) | (go_at_call 134; (with_reducible refine (H2.out _ _ _).mono ?_); rintro e w2 ⟨v3, rfl, hv3, X, rfl⟩; (try simp only [wx_wx, wx_drew] at hv3))); refine mixQ_mk (by (try show Ex _ _); with_reducible repeat (first | exact ex_refl _ | assumption | refine ex_drewL ?_ | refine ex_appR ?_ _ | refine ex_wx ?_ _ | refine ex_drew ?_ | refine ex_alloc ?_ _)) ?_))
            refine wpSeq_nil ?_
            go_wp2
            refine wp_worldC fun A1 hA1 => ?_
            have kA1 : Ex (w.alloc (.cells (rowB 32 fun _ => 0) 46)) A1 := by rw [← hA1]; exact (by (try show Ex _ _); with_reducible repeat (first | exact ex_refl _ | assumption | refine ex_drewL ?_ | refine ex_appR ?_ _ | refine ex_wx ?_ _ | refine ex_drew ?_ | refine ex_alloc ?_ _))
            have kw1 : Ex w A1 := ex_trans (ex_alloc (ex_refl _) _) kA1
            have hl1 : cellsN A1 (w.heap.size + 1 + XR.blocks.length) 0 32 = some (rowB 32 (dF y)) := by rw [← hA1]; simp [go_sem]
            have hz1 : w.heap.size + 1 + XR.blocks.length < A1.heap.size := by rw [← hA1]; simp [go_sem]; omega
            replace hv3 : OwnU A1 v3 (twoL rT rD) := by rw [← hA1]; exact OwnU.ex hv3 (by (try show Ex _ _); with_reducible repeat (first | exact ex_refl _ | assumption | refine ex_drewL ?_ | refine ex_appR ?_ _ | refine ex_wx ?_ _ | refine ex_drew ?_ | refine ex_alloc ?_ _))
            clear hA1
            obtain ⟨rl, hrl⟩ : ∃ rl, w.heap.size + 1 + XR.blocks.length = rl := ⟨_, rfl⟩
            have hrw : w.heap.size < rl := by omega
            rw [hrl] at hl1 hz1 ⊢
            clear hrl
            obtain ⟨P, hP⟩ : ∃ P : Nat → Prop, P = fun k => k = p ∨ k = w.heap.size := ⟨_, rfl⟩
            have hrP : ¬ P rl := by rw [hP]; rintro (e | e) <;> omega
            have SQ : Hid (∀ w5, FrP p A1 w5 → Frm P A1 w5) := Lib.hid fun w5 F => F.mono fun b e => by rw [hP]; exact Or.inl e
            have SP : Hid (∀ w5, FrP p A1 w5 → ∀ vs, Frm P A1 (w5.setCells w.heap.size 0 vs)) := Lib.hid fun w5 F vs => (SQ.out w5 F).sets (b := w.heap.size) (by rw [hP]; exact Or.inr rfl) 0 vs
            have HE := Lib.hid (fun w5 c5 => k_end (p := p) (W := W) (r := w.heap.size) (w := w) (A := A1) (w5 := w5) (c := c5) (Nat.le_refl _) (ex_block kA1 (heap_alloc_new _ _)) kw1)
            have hk1w := (HK.out.ex kw1)
            have hv3' := Lib.hid (fun w5 (F : FrP p A1 w5) => hv3.frm hk1w.nou F)
            replace hk1w := Lib.hid hk1w
            clear hv3 hP
            refine wp_region_forkH (fun w' => ∃ X, w' = kp A1 P X) (.look 0 (.look 1 (.look 2 (.look 3 (.look 4 (.look 5 (.look 6 (.look 7 (.look 9 (.look 11 (.eff 8 (.eff 10 (.eff 12 (.eff 13 .done)))))))))))))) (⟨_, kp_of (fun _ _ _ => rfl)⟩) (by kernel_rfl) (by kernel_rfl) (fun _ _ d _ _ h => by cases d <;> exact h) ?_
            simp only [Fk.ops, nth]
            repeat (first | ((with_reducible refine wpForkH_look ?_); go_big_quiet_step (fail); (try (with_reducible refine wpQuiet_nil ?_))) | (with_reducible refine wpForkH_eff ?_) | ((with_reducible refine effH_F ?_ ?_); (focus rfl); go_simp) | ((with_reducible refine effH_T ?_ ?_); (focus rfl); (try dsimp only); go_wp2_with ((go_at_call 114; (with_reducible refine (HC2.out _ (ex_trans kw1 (by (try show Ex _ _); with_reducible repeat (first | exact ex_refl _ | assumption | refine ex_drewL ?_ | refine ex_appR ?_ _ | refine ex_wx ?_ _ | refine ex_drew ?_ | refine ex_alloc ?_ _)))).mono ?_); rintro e w2 ⟨rfl, F2', c2, K2⟩; dsimp only [offE]; exact ⟨rfl, rfl, (Frm.ex (ex_trans kw1 (by (try show Ex _ _); with_reducible repeat (first | exact ex_refl _ | assumption | refine ex_drewL ?_ | refine ex_appR ?_ _ | refine ex_wx ?_ _ | refine ex_drew ?_ | refine ex_alloc ?_ _)))).trans F2', c2, K2⟩)); (first | done | refine mixQH_mk (⟨_, kpF (Frm.ex (by (try show Ex _ _); with_reducible repeat (first | exact ex_refl _ | assumption | refine ex_drewL ?_ | refine ex_appR ?_ _ | refine ex_wx ?_ _ | refine ex_drew ?_ | refine ex_alloc ?_ _)))⟩) ?_)))
            all_goals (with_reducible refine wpForkH_nil ?_)
          | some xc =>
            obtain ⟨x, c1⟩ := xc
            have HC2 : Hid (∀ w', Ex w w' → Calls Tryd.prog 114 _ w' (PostK p W w' (.agg (rowB 32 (dF x))) c1)) := HC
            have HP2 := Lib.hid (HP.out x y rT rD c1)
            rw [Option.map_some]
            unfold PostKO
            simp only
            generalize putC (sumW W) (twoL x y) (twoL rT rD) c1 = o at HP2 ⊢
            obtain ⟨z, c'⟩ := o
            simp only at HP2 ⊢
            go_enter Tryd.func114, Tryd.ntmps114
            go_wp2_with (first | (go_at_call 142; (with_reducible refine (HR.out _ (by (try show Ex _ _); with_reducible repeat (first | exact ex_refl _ | assumption | refine ex_drewL ?_ | refine ex_appR ?_ _ | refine ex_wx ?_ _ | refine ex_drew ?_ | refine ex_alloc ?_ _))).mono ?_); rintro e w2 ⟨rfl, XR, rfl⟩) | (go_at_call 133; (with_reducible refine (HSp.out _).mono ?_); rintro e w' ⟨rfl, rfl⟩))
            refine wp_region_seq [(0, true), (1, true), (2, true), (3, true), (4, true), (5, true), (6, true), (8, true), (9, true), (10, true), (11, true), (12, true), (13, true), (14, true), (7, false), (15, false), (16, false), (17, true)] (by kernel_rfl) (by kernel_rfl) (fun _ _ d _ _ h => by cases d <;> exact h) ?_
            simp only [List.map_cons, List.map_nil, nth]
            repeat (first | ((with_reducible refine wpSeq_look ?_); go_big_quiet_step (fail); (with_reducible refine wpQuiet_nil ?_)) | ((with_reducible refine wpSeq_effF ?_ ?_); (focus rfl); go_simp) | ((with_reducible refine wpSeq_eff ?_ ?_); (focus rfl); (try dsimp only); go_wp2_with (first | (go_at_call 76; (with_reducible refine (HT.out _ (by (try show Ex _ _); with_reducible repeat (first | exact ex_refl _ | assumption | refine ex_drewL ?_ | refine ex_appR ?_ _ | refine ex_wx ?_ _ | refine ex_drew ?_ | refine ex_alloc ?_ _))).mono ?_); rintro e w2 ⟨rfl, X, rfl⟩) | (go_at_call 76; (with_reducible refine (HD.out _ (by (try show Ex _ _); with_reducible repeat (first | exact ex_refl _ | assumption | refine ex_drewL ?_ | refine ex_appR ?_ _ | refine ex_wx ?_ _ | refine ex_drew ?_ | refine ex_alloc ?_ _))).mono ?_); rintro e w2 ⟨rfl, X, rfl⟩) | (go_at_call 134; (with_reducible refine (H2.out _ _ _).mono ?_); rintro e w2 ⟨v3, rfl, hv3, X, rfl⟩; (try simp only [wx_wx, wx_drew] at hv3))); refine mixQ_mk (by (try show Ex _ _); with_reducible repeat (first | exact ex_refl _ | assumption | refine ex_drewL ?_ | refine ex_appR ?_ _ | refine ex_wx ?_ _ | refine ex_drew ?_ | refine ex_alloc ?_ _)) ?_))
            refine wpSeq_nil ?_
            go_wp2
            refine wp_worldC fun A1 hA1 => ?_
            have kA1 : Ex (w.alloc (.cells (rowB 32 fun _ => 0) 46)) A1 := by rw [← hA1]; exact (by (try show Ex _ _); with_reducible repeat (first | exact ex_refl _ | assumption | refine ex_drewL ?_ | refine ex_appR ?_ _ | refine ex_wx ?_ _ | refine ex_drew ?_ | refine ex_alloc ?_ _))
            have kw1 : Ex w A1 := ex_trans (ex_alloc (ex_refl _) _) kA1
            have hl1 : cellsN A1 (w.heap.size + 1 + XR.blocks.length) 0 32 = some (rowB 32 (dF y)) := by rw [← hA1]; simp [go_sem]
            have hz1 : w.heap.size + 1 + XR.blocks.length < A1.heap.size := by rw [← hA1]; simp [go_sem]; omega
            replace hv3 : OwnU A1 v3 (twoL rT rD) := by rw [← hA1]; exact OwnU.ex hv3 (by (try show Ex _ _); with_reducible repeat (first | exact ex_refl _ | assumption | refine ex_drewL ?_ | refine ex_appR ?_ _ | refine ex_wx ?_ _ | refine ex_drew ?_ | refine ex_alloc ?_ _))
            clear hA1
            obtain ⟨rl, hrl⟩ : ∃ rl, w.heap.size + 1 + XR.blocks.length = rl := ⟨_, rfl⟩
            have hrw : w.heap.size < rl := by omega
            rw [hrl] at hl1 hz1 ⊢
            clear hrl
            obtain ⟨P, hP⟩ : ∃ P : Nat → Prop, P = fun k => k = p ∨ k = w.heap.size := ⟨_, rfl⟩
            have hrP : ¬ P rl := by rw [hP]; rintro (e | e) <;> omega
            have SQ : Hid (∀ w5, FrP p A1 w5 → Frm P A1 w5) := Lib.hid fun w5 F => F.mono fun b e => by rw [hP]; exact Or.inl e
            have SP : Hid (∀ w5, FrP p A1 w5 → ∀ vs, Frm P A1 (w5.setCells w.heap.size 0 vs)) := Lib.hid fun w5 F vs => (SQ.out w5 F).sets (b := w.heap.size) (by rw [hP]; exact Or.inr rfl) 0 vs
            have HE := Lib.hid (fun w5 c5 => k_end (p := p) (W := W) (r := w.heap.size) (w := w) (A := A1) (w5 := w5) (c := c5) (Nat.le_refl _) (ex_block kA1 (heap_alloc_new _ _)) kw1)
            have hk1w := (HK.out.ex kw1)
            have hv3' := Lib.hid (fun w5 (F : FrP p A1 w5) => hv3.frm hk1w.nou F)
            replace hk1w := Lib.hid hk1w
            clear hv3 hP
            refine wp_region_forkH (fun w' => ∃ X, w' = kp A1 P X) (.look 0 (.look 1 (.look 2 (.look 3 (.look 4 (.look 5 (.look 6 (.look 7 (.look 9 (.look 11 (.eff 8 (.eff 10 (.eff 12 (.eff 13 .done)))))))))))))) (⟨_, kp_of (fun _ _ _ => rfl)⟩) (by kernel_rfl) (by kernel_rfl) (fun _ _ d _ _ h => by cases d <;> exact h) ?_
            simp only [Fk.ops, nth]
            repeat (first | ((with_reducible refine wpForkH_look ?_); go_big_quiet_step (fail); (try (with_reducible refine wpQuiet_nil ?_))) | (with_reducible refine wpForkH_eff ?_) | ((with_reducible refine effH_F ?_ ?_); (focus rfl); go_simp) | ((with_reducible refine effH_T ?_ ?_); (focus rfl); (try dsimp only); go_wp2_with (first | (go_at_call 114; (with_reducible refine (HC2.out _ (ex_trans kw1 (by (try show Ex _ _); with_reducible repeat (first | exact ex_refl _ | assumption | refine ex_drewL ?_ | refine ex_appR ?_ _ | refine ex_wx ?_ _ | refine ex_drew ?_ | refine ex_alloc ?_ _)))).mono ?_); rintro e w2 ⟨rfl, F2', K2⟩; have F2 : FrP p A1 w2 := (Frm.ex (by (try show Ex _ _); with_reducible repeat (first | exact ex_refl _ | assumption | refine ex_drewL ?_ | refine ex_appR ?_ _ | refine ex_wx ?_ _ | refine ex_drew ?_ | refine ex_alloc ?_ _))).trans F2'; have kA2 : Ex A w2 := F2'.exA (ex_trans kA (ex_trans kw1 (by (try show Ex _ _); with_reducible repeat (first | exact ex_refl _ | assumption | refine ex_drewL ?_ | refine ex_appR ?_ _ | refine ex_wx ?_ _ | refine ex_drew ?_ | refine ex_alloc ?_ _)))) hp; replace F2' := Lib.hid F2'; have hv32 := Lib.hid (hv3'.out _ F2)) | (go_at_call 134; (with_reducible refine (H2.out _ _ _).mono ?_); rintro e w3 ⟨v4, rfl, hv4, X, rfl⟩; (try simp only [wx_wx, wx_drew] at hv4)) | (go_at_call 100; (with_reducible refine (HP2.out _ _ _ (ex_trans kA2 (by (try show Ex _ _); with_reducible repeat (first | exact ex_refl _ | assumption | refine ex_drewL ?_ | refine ex_appR ?_ _ | refine ex_wx ?_ _ | refine ex_drew ?_ | refine ex_alloc ?_ _))) (K2.ex (by (try show Ex _ _); with_reducible repeat (first | exact ex_refl _ | assumption | refine ex_drewL ?_ | refine ex_appR ?_ _ | refine ex_wx ?_ _ | refine ex_drew ?_ | refine ex_alloc ?_ _))) (OwnU.ex hv4 (by (try show Ex _ _); with_reducible repeat (first | exact ex_refl _ | assumption | refine ex_drewL ?_ | refine ex_appR ?_ _ | refine ex_wx ?_ _ | refine ex_drew ?_ | refine ex_alloc ?_ _))) (OwnU.ex hv32.out (by (try show Ex _ _); with_reducible repeat (first | exact ex_refl _ | assumption | refine ex_drewL ?_ | refine ex_appR ?_ _ | refine ex_wx ?_ _ | refine ex_drew ?_ | refine ex_alloc ?_ _)))).mono ?_); rintro e w5 ⟨rfl, F5', K5⟩; have F5 : FrP p A1 w5 := F2.trans ((Frm.ex (by (try show Ex _ _); with_reducible repeat (first | exact ex_refl _ | assumption | refine ex_drewL ?_ | refine ex_appR ?_ _ | refine ex_wx ?_ _ | refine ex_drew ?_ | refine ex_alloc ?_ _))).trans F5'); obtain ⟨⟨n5, f5, z5⟩, HX⟩ := HE.out w5 _ F5 K5 (Nat.ne_of_gt hpw); replace HX := Lib.hid HX)); (first | done | refine mixQH_mk (⟨_, kpF (by first | exact SP.out _ F5 _ | exact SQ.out _ F5 | exact (SQ.out _ F2).trans (Frm.ex (by (try show Ex _ _); with_reducible repeat (first | exact ex_refl _ | assumption | refine ex_drewL ?_ | refine ex_appR ?_ _ | refine ex_wx ?_ _ | refine ex_drew ?_ | refine ex_alloc ?_ _))) | exact SQ.out _ F2 | exact Frm.ex (by (try show Ex _ _); with_reducible repeat (first | exact ex_refl _ | assumption | refine ex_drewL ?_ | refine ex_appR ?_ _ | refine ex_wx ?_ _ | refine ex_drew ?_ | refine ex_alloc ?_ _)))⟩) ?_)))
            all_goals (with_reducible refine wpForkH_nil ?_)
            go_wp2
            obtain ⟨x1, x2, x3⟩ := HX.out z
            exact ret_row Tryd.results114 Tryd.underlying46 rfl info_id rfl x1 rfl ⟨rfl, x2, x3⟩
        · have HC : Hid (∀ w', Ex w w' → Calls Tryd.prog 114 #[.pointer (some ⟨p, 0, none⟩), .slice (some ⟨g, off + splitN N, none⟩) (N - splitN N) (lc - splitN N), I ((i : Int) - splitN N), bv, .slice pa r.length pc] w' (PostKO p W w' (climbC (sumW W) (l.drop (splitN N)) (i - splitN N) b r c))) :=
            Lib.hid fun w' k => by
            have := ih (N - splitN N) (by omega) (l.drop (splitN N)) (some ⟨g, off + splitN N, none⟩) (lc - splitN N) (i - splitN N) r pa pc c w' (by rw [List.length_drop]; omega) (by omega) (by omega) (by omega) (by unfold maxLen; omega) (hls.drop _) (fun b hb => hsh b (List.mem_of_mem_drop hb)) (by omega) (by omega) (by unfold maxLen; omega) (by have := hpath.take r.length; simpa using this) (ex_trans kA k) (hk.ex k)
            rwa [show ((i - splitN N : Nat) : Int) = (i : Int) - splitN N by omega] at this
          have hcl := climbC_hi (S := sumW W) (l := l) (by omega) (i := i) (by rw [hl]; exact hik) b r y c
          rw [hl] at hcl
          rw [hcl]
          clear hcl ih hls hpath hbv hk
          generalize climbC (sumW W) (l.drop (splitN N)) (i - splitN N) b r c = o at HC ⊢
          generalize rootC (sumW W) (l.take (splitN N)) = rT at HT ⊢
          generalize rootC (sumW W) (l.drop (splitN N)) = rD at HD ⊢
          generalize splitN N = k at *
          generalize r.length = rn at *
          have hik2 : ¬ (i : Int) < k := by omega
          cases o with
          | none =>
            have HC2 : Hid (∀ w', Ex w w' → Calls Tryd.prog 114 _ w' (fun e w2 => e = offE ∧ FrP p w' w2 ∧ ∃ c, Wk w2 p W c)) := HC
            rw [Option.map_none]
            go_enter Tryd.func114, Tryd.ntmps114
            go_wp2_with (first | (go_at_call 142; (with_reducible refine (HR.out _ (by (try show Ex _ _); with_reducible repeat (first | exact ex_refl _ | assumption | refine ex_drewL ?_ | refine ex_appR ?_ _ | refine ex_wx ?_ _ | refine ex_drew ?_ | refine ex_alloc ?_ _))).mono ?_); rintro e w2 ⟨rfl, XR, rfl⟩) | (go_at_call 133; (with_reducible refine (HSp.out _).mono ?_); rintro e w' ⟨rfl, rfl⟩))
            refine wp_region_seq [(0, true), (1, true), (2, true), (3, true), (4, true), (5, true), (6, true), (8, true), (9, true), (10, true), (11, true), (12, true), (13, true), (14, true), (7, false), (15, false), (16, false), (17, true)] (by kernel_rfl) (by kernel_rfl) (fun _ _ d _ _ h => by cases d <;> exact h) ?_
            simp only [List.map_cons, List.map_nil, nth]
            repeat (first | ((with_reducible refine wpSeq_look ?_); go_big_quiet_step (fail); (with_reducible refine wpQuiet_nil ?_)) | ((with_reducible refine wpSeq_effF ?_ ?_); (focus rfl); go_simp) | ((with_reducible refine wpSeq_eff ?_ ?_); (focus rfl); (try dsimp only); go_wp2_with (first | (go_at_call 76; (with_reducible refine (HT.out _ (by (try show Ex _ _); with_reducible repeat (first | exact ex_refl _ | assumption | refine ex_drewL ?_ | refine ex_appR ?_ _ | refine ex_wx ?_ _ | refine ex_drew ?_ | refine ex_alloc ?_ _))).mono ?_); rintro e w2 ⟨rfl, X, rfl⟩) | (go_at_call 76; (with_reducible refine (HD.out _ (by (try show Ex _ _); with_reducible repeat (first | exact ex_refl _ | assumption | refine ex_drewL ?_ | refine ex_appR ?_ _ | refine ex_wx ?_ _ | refine ex_drew ?_ | refine ex_alloc ?_ _))).mono ?_); rintro e w2 ⟨rfl, X, rfl⟩) | (go_at_call 134; (with_reducible refine (H2.out _ _ _).mono ?_); rintro e w2 ⟨v3, rfl, hv3, X, rfl⟩; (try simp only [wx_wx, wx_drew] at hv3))); refine mixQ_mk (by (try show Ex _ _); with_reducible repeat (first | exact ex_refl _ | assumption | refine ex_drewL ?_ | refine ex_appR ?_ _ | refine ex_wx ?_ _ | refine ex_drew ?_ | refine ex_alloc ?_ _)) ?_))
            refine wpSeq_nil ?_
            go_wp2
            refine wp_worldC fun A1 hA1 => ?_
            have kA1 : Ex (w.alloc (.cells (rowB 32 fun _ => 0) 46)) A1 := by rw [← hA1]; exact (by (try show Ex _ _); with_reducible repeat (first | exact ex_refl _ | assumption | refine ex_drewL ?_ | refine ex_appR ?_ _ | refine ex_wx ?_ _ | refine ex_drew ?_ | refine ex_alloc ?_ _))
            have kw1 : Ex w A1 := ex_trans (ex_alloc (ex_refl _) _) kA1
            have hl1 : cellsN A1 (w.heap.size + 1 + XR.blocks.length) 0 32 = some (rowB 32 (dF y)) := by rw [← hA1]; simp [go_sem]
            have hz1 : w.heap.size + 1 + XR.blocks.length < A1.heap.size := by rw [← hA1]; simp [go_sem]; omega
            replace hv3 : OwnU A1 v3 (twoL rT rD) := by rw [← hA1]; exact OwnU.ex hv3 (by (try show Ex _ _); with_reducible repeat (first | exact ex_refl _ | assumption | refine ex_drewL ?_ | refine ex_appR ?_ _ | refine ex_wx ?_ _ | refine ex_drew ?_ | refine ex_alloc ?_ _))
            clear hA1
            obtain ⟨rl, hrl⟩ : ∃ rl, w.heap.size + 1 + XR.blocks.length = rl := ⟨_, rfl⟩
            have hrw : w.heap.size < rl := by omega
            rw [hrl] at hl1 hz1 ⊢
            clear hrl
            obtain ⟨P, hP⟩ : ∃ P : Nat → Prop, P = fun k => k = p ∨ k = w.heap.size := ⟨_, rfl⟩
            have hrP : ¬ P rl := by rw [hP]; rintro (e | e) <;> omega
            have SQ : Hid (∀ w5, FrP p A1 w5 → Frm P A1 w5) := Lib.hid fun w5 F => F.mono fun b e => by rw [hP]; exact Or.inl e
            have SP : Hid (∀ w5, FrP p A1 w5 → ∀ vs, Frm P A1 (w5.setCells w.heap.size 0 vs)) := Lib.hid fun w5 F vs => (SQ.out w5 F).sets (b := w.heap.size) (by rw [hP]; exact Or.inr rfl) 0 vs
            have HE := Lib.hid (fun w5 c5 => k_end (p := p) (W := W) (r := w.heap.size) (w := w) (A := A1) (w5 := w5) (c := c5) (Nat.le_refl _) (ex_block kA1 (heap_alloc_new _ _)) kw1)
            have hk1w := (HK.out.ex kw1)
            have hv3' := Lib.hid (fun w5 (F : FrP p A1 w5) => hv3.frm hk1w.nou F)
            replace hk1w := Lib.hid hk1w
            clear hv3 hP
            refine wp_region_forkH (fun w' => ∃ X, w' = kp A1 P X) (.look 0 (.look 1 (.look 2 (.look 3 (.look 4 (.look 5 (.look 6 (.look 7 (.look 8 (.look 9 (.look 10 (.look 13 (.eff 11 (.eff 12 (.eff 14 (.eff 15 .done)))))))))))))))) (⟨_, kp_of (fun _ _ _ => rfl)⟩) (by kernel_rfl) (by kernel_rfl) (fun _ _ d _ _ h => by cases d <;> exact h) ?_
            simp only [Fk.ops, nth]
            repeat (first | ((with_reducible refine wpForkH_look ?_); go_big_quiet_step (fail); (try (with_reducible refine wpQuiet_nil ?_))) | (with_reducible refine wpForkH_eff ?_) | ((with_reducible refine effH_F ?_ ?_); (focus rfl); go_simp) | ((with_reducible refine effH_T ?_ ?_); (focus rfl); (try dsimp only); go_wp2_with ((go_at_call 114; (with_reducible refine (HC2.out _ (ex_trans kw1 (by (try show Ex _ _); with_reducible repeat (first | exact ex_refl _ | assumption | refine ex_drewL ?_ | refine ex_appR ?_ _ | refine ex_wx ?_ _ | refine ex_drew ?_ | refine ex_alloc ?_ _)))).mono ?_); rintro e w2 ⟨rfl, F2', c2, K2⟩; dsimp only [offE]; exact ⟨rfl, rfl, (Frm.ex (ex_trans kw1 (by (try show Ex _ _); with_reducible repeat (first | exact ex_refl _ | assumption | refine ex_drewL ?_ | refine ex_appR ?_ _ | refine ex_wx ?_ _ | refine ex_drew ?_ | refine ex_alloc ?_ _)))).trans F2', c2, K2⟩)); (first | done | refine mixQH_mk (⟨_, kpF (Frm.ex (by (try show Ex _ _); with_reducible repeat (first | exact ex_refl _ | assumption | refine ex_drewL ?_ | refine ex_appR ?_ _ | refine ex_wx ?_ _ | refine ex_drew ?_ | refine ex_alloc ?_ _)))⟩) ?_)))
            all_goals (with_reducible refine wpForkH_nil ?_)
          | some xc =>
            obtain ⟨x, c1⟩ := xc
            have HC2 : Hid (∀ w', Ex w w' → Calls Tryd.prog 114 _ w' (PostK p W w' (.agg (rowB 32 (dF x))) c1)) := HC
            have HP2 := Lib.hid (HP.out y x rT rD c1)
            rw [Option.map_some]
            unfold PostKO
            simp only
            generalize putC (sumW W) (twoL y x) (twoL rT rD) c1 = o at HP2 ⊢
            obtain ⟨z, c'⟩ := o
            simp only at HP2 ⊢
            go_enter Tryd.func114, Tryd.ntmps114
            go_wp2_with (first | (go_at_call 142; (with_reducible refine (HR.out _ (by (try show Ex _ _); with_reducible repeat (first | exact ex_refl _ | assumption | refine ex_drewL ?_ | refine ex_appR ?_ _ | refine ex_wx ?_ _ | refine ex_drew ?_ | refine ex_alloc ?_ _))).mono ?_); rintro e w2 ⟨rfl, XR, rfl⟩) | (go_at_call 133; (with_reducible refine (HSp.out _).mono ?_); rintro e w' ⟨rfl, rfl⟩))
            refine wp_region_seq [(0, true), (1, true), (2, true), (3, true), (4, true), (5, true), (6, true), (8, true), (9, true), (10, true), (11, true), (12, true), (13, true), (14, true), (7, false), (15, false), (16, false), (17, true)] (by kernel_rfl) (by kernel_rfl) (fun _ _ d _ _ h => by cases d <;> exact h) ?_
            simp only [List.map_cons, List.map_nil, nth]
            repeat (first | ((with_reducible refine wpSeq_look ?_); go_big_quiet_step (fail); (with_reducible refine wpQuiet_nil ?_)) | ((with_reducible refine wpSeq_effF ?_ ?_); (focus rfl); go_simp) | ((with_reducible refine wpSeq_eff ?_ ?_); (focus rfl); (try dsimp only); go_wp2_with (first | (go_at_call 76; (with_reducible refine (HT.out _ (by (try show Ex _ _); with_reducible repeat (first | exact ex_refl _ | assumption | refine ex_drewL ?_ | refine ex_appR ?_ _ | refine ex_wx ?_ _ | refine ex_drew ?_ | refine ex_alloc ?_ _))).mono ?_); rintro e w2 ⟨rfl, X, rfl⟩) | (go_at_call 76; (with_reducible refine (HD.out _ (by (try show Ex _ _); with_reducible repeat (first | exact ex_refl _ | assumption | refine ex_drewL ?_ | refine ex_appR ?_ _ | refine ex_wx ?_ _ | refine ex_drew ?_ | refine ex_alloc ?_ _))).mono ?_); rintro e w2 ⟨rfl, X, rfl⟩) | (go_at_call 134; (with_reducible refine (H2.out _ _ _).mono ?_); rintro e w2 ⟨v3, rfl, hv3, X, rfl⟩; (try simp only [wx_wx, wx_drew] at hv3))); refine mixQ_mk (by (try show Ex _ _); with_reducible repeat (first | exact ex_refl _ | assumption | refine ex_drewL ?_ | refine ex_appR ?_ _ | refine ex_wx ?_ _ | refine ex_drew ?_ | refine ex_alloc ?_ _)) ?_))
            refine wpSeq_nil ?_
            go_wp2
            refine wp_worldC fun A1 hA1 => ?_
            have kA1 : Ex (w.alloc (.cells (rowB 32 fun _ => 0) 46)) A1 := by rw [← hA1]; exact (by (try show Ex _ _); with_reducible repeat (first | exact ex_refl _ | assumption | refine ex_drewL ?_ | refine ex_appR ?_ _ | refine ex_wx ?_ _ | refine ex_drew ?_ | refine ex_alloc ?_ _))
            have kw1 : Ex w A1 := ex_trans (ex_alloc (ex_refl _) _) kA1
            have hl1 : cellsN A1 (w.heap.size + 1 + XR.blocks.length) 0 32 = some (rowB 32 (dF y)) := by rw [← hA1]; simp [go_sem]
            have hz1 : w.heap.size + 1 + XR.blocks.length < A1.heap.size := by rw [← hA1]; simp [go_sem]; omega
            replace hv3 : OwnU A1 v3 (twoL rT rD) := by rw [← hA1]; exact OwnU.ex hv3 (by (try show Ex _ _); with_reducible repeat (first | exact ex_refl _ | assumption | refine ex_drewL ?_ | refine ex_appR ?_ _ | refine ex_wx ?_ _ | refine ex_drew ?_ | refine ex_alloc ?_ _))
            clear hA1
            obtain ⟨rl, hrl⟩ : ∃ rl, w.heap.size + 1 + XR.blocks.length = rl := ⟨_, rfl⟩
            have hrw : w.heap.size < rl := by omega
            rw [hrl] at hl1 hz1 ⊢
            clear hrl
            obtain ⟨P, hP⟩ : ∃ P : Nat → Prop, P = fun k => k = p ∨ k = w.heap.size := ⟨_, rfl⟩
            have hrP : ¬ P rl := by rw [hP]; rintro (e | e) <;> omega
            have SQ : Hid (∀ w5, FrP p A1 w5 → Frm P A1 w5) := Lib.hid fun w5 F => F.mono fun b e => by rw [hP]; exact Or.inl e
            have SP : Hid (∀ w5, FrP p A1 w5 → ∀ vs, Frm P A1 (w5.setCells w.heap.size 0 vs)) := Lib.hid fun w5 F vs => (SQ.out w5 F).sets (b := w.heap.size) (by rw [hP]; exact Or.inr rfl) 0 vs
            have HE := Lib.hid (fun w5 c5 => k_end (p := p) (W := W) (r := w.heap.size) (w := w) (A := A1) (w5 := w5) (c := c5) (Nat.le_refl _) (ex_block kA1 (heap_alloc_new _ _)) kw1)
            have hk1w := (HK.out.ex kw1)
            have hv3' := Lib.hid (fun w5 (F : FrP p A1 w5) => hv3.frm hk1w.nou F)
            replace hk1w := Lib.hid hk1w
            clear hv3 hP
            refine wp_region_forkH (fun w' => ∃ X, w' = kp A1 P X) (.look 0 (.look 1 (.look 2 (.look 3 (.look 4 (.look 5 (.look 6 (.look 7 (.look 8 (.look 9 (.look 10 (.look 13 (.eff 11 (.eff 12 (.eff 14 (.eff 15 .done)))))))))))))))) (⟨_, kp_of (fun _ _ _ => rfl)⟩) (by kernel_rfl) (by kernel_rfl) (fun _ _ d _ _ h => by cases d <;> exact h) ?_
            simp only [Fk.ops, nth]
            repeat (first | ((with_reducible refine wpForkH_look ?_); go_big_quiet_step (fail); (try (with_reducible refine wpQuiet_nil ?_))) | (with_reducible refine wpForkH_eff ?_) | ((with_reducible refine effH_F ?_ ?_); (focus rfl); go_simp) | ((with_reducible refine effH_T ?_ ?_); (focus rfl); (try dsimp only); go_wp2_with (first | (go_at_call 114; (with_reducible refine (HC2.out _ (ex_trans kw1 (by (try show Ex _ _); with_reducible repeat (first | exact ex_refl _ | assumption | refine ex_drewL ?_ | refine ex_appR ?_ _ | refine ex_wx ?_ _ | refine ex_drew ?_ | refine ex_alloc ?_ _)))).mono ?_); rintro e w2 ⟨rfl, F2', K2⟩; have F2 : FrP p A1 w2 := (Frm.ex (by (try show Ex _ _); with_reducible repeat (first | exact ex_refl _ | assumption | refine ex_drewL ?_ | refine ex_appR ?_ _ | refine ex_wx ?_ _ | refine ex_drew ?_ | refine ex_alloc ?_ _))).trans F2'; have kA2 : Ex A w2 := F2'.exA (ex_trans kA (ex_trans kw1 (by (try show Ex _ _); with_reducible repeat (first | exact ex_refl _ | assumption | refine ex_drewL ?_ | refine ex_appR ?_ _ | refine ex_wx ?_ _ | refine ex_drew ?_ | refine ex_alloc ?_ _)))) hp; replace F2' := Lib.hid F2'; have hv32 := Lib.hid (hv3'.out _ F2)) | (go_at_call 134; (with_reducible refine (H2.out _ _ _).mono ?_); rintro e w3 ⟨v4, rfl, hv4, X, rfl⟩; (try simp only [wx_wx, wx_drew] at hv4)) | (go_at_call 100; (with_reducible refine (HP2.out _ _ _ (ex_trans kA2 (by (try show Ex _ _); with_reducible repeat (first | exact ex_refl _ | assumption | refine ex_drewL ?_ | refine ex_appR ?_ _ | refine ex_wx ?_ _ | refine ex_drew ?_ | refine ex_alloc ?_ _))) (K2.ex (by (try show Ex _ _); with_reducible repeat (first | exact ex_refl _ | assumption | refine ex_drewL ?_ | refine ex_appR ?_ _ | refine ex_wx ?_ _ | refine ex_drew ?_ | refine ex_alloc ?_ _))) (OwnU.ex hv4 (by (try show Ex _ _); with_reducible repeat (first | exact ex_refl _ | assumption | refine ex_drewL ?_ | refine ex_appR ?_ _ | refine ex_wx ?_ _ | refine ex_drew ?_ | refine ex_alloc ?_ _))) (OwnU.ex hv32.out (by (try show Ex _ _); with_reducible repeat (first | exact ex_refl _ | assumption | refine ex_drewL ?_ | refine ex_appR ?_ _ | refine ex_wx ?_ _ | refine ex_drew ?_ | refine ex_alloc ?_ _)))).mono ?_); rintro e w5 ⟨rfl, F5', K5⟩; have F5 : FrP p A1 w5 := F2.trans ((Frm.ex (by (try show Ex _ _); with_reducible repeat (first | exact ex_refl _ | assumption | refine ex_drewL ?_ | refine ex_appR ?_ _ | refine ex_wx ?_ _ | refine ex_drew ?_ | refine ex_alloc ?_ _))).trans F5'); obtain ⟨⟨n5, f5, z5⟩, HX⟩ := HE.out w5 _ F5 K5 (Nat.ne_of_gt hpw); replace HX := Lib.hid HX)); (first | done | refine mixQH_mk (⟨_, kpF (by first | exact SP.out _ F5 _ | exact SQ.out _ F5 | exact (SQ.out _ F2).trans (Frm.ex (by (try show Ex _ _); with_reducible repeat (first | exact ex_refl _ | assumption | refine ex_drewL ?_ | refine ex_appR ?_ _ | refine ex_wx ?_ _ | refine ex_drew ?_ | refine ex_alloc ?_ _))) | exact SQ.out _ F2 | exact Frm.ex (by (try show Ex _ _); with_reducible repeat (first | exact ex_refl _ | assumption | refine ex_drewL ?_ | refine ex_appR ?_ _ | refine ex_wx ?_ _ | refine ex_drew ?_ | refine ex_alloc ?_ _)))⟩) ?_)))
            all_goals (with_reducible refine wpForkH_nil ?_)
            go_wp2
            obtain ⟨x1, x2, x3⟩ := HX.out z
            exact ret_row Tryd.results114 Tryd.underlying46 rfl info_id rfl x1 rfl ⟨rfl, x2, x3⟩
end Go.Proofs.YtcdocklbpfdmeaaDoor