import Derived.Test.YtabjamkkhlbajaaDoorMWlO

/- The log: Append, Checkpoint; what is asked of a log; the nil log. -/
set_option linter.unusedSimpArgs false
set_option linter.unusedVariables false
set_option linter.unnecessarySimpa false
set_option maxRecDepth 20000
namespace Go.Proofs.YtabjamkkhlbajaaDoor
open Go.RowKit
theorem turn_w {w : World} {p : Nat} {L : Loc} {d : Dk} {wl : Wl} (h : LgM w p L d wl) : Calls Tryd.prog 18 #[PT p] w (Post w (U4 wl.c.turn)) := by
  obtain ⟨sv, hp, _⟩ := h.out
  have zp := (Array.getElem?_eq_some_iff.1 hp).1
  have c0 := (block_cellF (o := 0) (v := U4 wl.c.turn) hp rfl).1
  have c9 := (block_cellF (o := 9) (v := PT L.p) hp rfl).1
  have c11 := (block_cellF (o := 11) (v := .bool wl.br) hp rfl).1
  clear h hp
  go_enter Tryd.func18, Tryd.ntmps18
  go_wp2
  go_ret
  exact post_mk' rfl (by (try show Ex _ _); with_reducible repeat (first | exact ex_refl _ | assumption | refine ex_drewL ?_ | refine ex_appR ?_ _ | refine ex_wx ?_ _ | refine ex_drew ?_ | refine ex_alloc ?_ _))
theorem broken_w {w : World} {p : Nat} {L : Loc} {d : Dk} {wl : Wl} (h : LgM w p L d wl) : Calls Tryd.prog 19 #[PT p] w (Post w (.bool wl.br)) := by
  obtain ⟨sv, hp, _⟩ := h.out
  have zp := (Array.getElem?_eq_some_iff.1 hp).1
  have c0 := (block_cellF (o := 0) (v := U4 wl.c.turn) hp rfl).1
  have c9 := (block_cellF (o := 9) (v := PT L.p) hp rfl).1
  have c11 := (block_cellF (o := 11) (v := .bool wl.br) hp rfl).1
  clear h hp
  go_enter Tryd.func19, Tryd.ntmps19
  go_wp2
  go_ret
  exact post_mk' rfl (by (try show Ex _ _); with_reducible repeat (first | exact ex_refl _ | assumption | refine ex_drewL ?_ | refine ex_appR ?_ _ | refine ex_wx ?_ _ | refine ex_drew ?_ | refine ex_alloc ?_ _))
theorem disk_w {w : World} {p : Nat} {L : Loc} {d : Dk} {wl : Wl} (h : LgM w p L d wl) : Calls Tryd.prog 20 #[PT p] w (Post w (PT L.p)) := by
  obtain ⟨sv, hp, _⟩ := h.out
  have zp := (Array.getElem?_eq_some_iff.1 hp).1
  have c0 := (block_cellF (o := 0) (v := U4 wl.c.turn) hp rfl).1
  have c9 := (block_cellF (o := 9) (v := PT L.p) hp rfl).1
  have c11 := (block_cellF (o := 11) (v := .bool wl.br) hp rfl).1
  clear h hp
  go_enter Tryd.func20, Tryd.ntmps20
  go_wp2
  go_ret
  exact post_mk' rfl (by (try show Ex _ _); with_reducible repeat (first | exact ex_refl _ | assumption | refine ex_drewL ?_ | refine ex_appR ?_ _ | refine ex_wx ?_ _ | refine ex_drew ?_ | refine ex_alloc ?_ _))
theorem len_w {w : World} {p : Nat} {L : Loc} {d : Dk} {wl : Wl} (h : LgM w p L d wl) : Calls Tryd.prog 16 #[PT p] w (Post w (I ((wl.sh.length : Int) - 1))) := by
  obtain ⟨sv, hp, hs⟩ := h.out
  have zp := (Array.getElem?_eq_some_iff.1 hp).1
  obtain ⟨a, c, rfl, h1, h2, _, _⟩ := hs.out
  have c10 := (block_cellF (o := 10) (v := .slice a wl.sh.length c) hp rfl).1
  unfold maxLen at h2
  clear h hp hs
  go_enter Tryd.func16, Tryd.ntmps16
  go_wp2
  go_ret
  exact post_mk' rfl (by (try show Ex _ _); with_reducible repeat (first | exact ex_refl _ | assumption | refine ex_drewL ?_ | refine ex_appR ?_ _ | refine ex_wx ?_ _ | refine ex_drew ?_ | refine ex_alloc ?_ _))
theorem left_w {w : World} {p : Nat} {L : Loc} {d : Dk} {wl : Wl} (h : LgM w p L d wl) (hu : wl.c.used ≤ wl.c.n) (hn : wl.c.n ≤ 1000) : Calls Tryd.prog 17 #[PT p] w (Post w (I ((wl.c.n : Int) - wl.c.used))) := by
  obtain ⟨sv, hp, hs⟩ := h.out
  have zp := (Array.getElem?_eq_some_iff.1 hp).1
  have c1 := (block_cellF (o := 1) (v := U4 wl.c.n) hp rfl).1
  have c3 := (block_cellF (o := 3) (v := U4 wl.c.used) hp rfl).1
  have e : ((wl.c.n : Int) - wl.c.used) % 4294967296 = wl.c.n - wl.c.used := by omega
  clear h hp hs
  go_enter Tryd.func17, Tryd.ntmps17
  go_wp2
  refine wp_region_seqA (w) [(0, true), (1, true), (2, true), (3, true), (4, true), (5, true), (6, true), (7, true), (8, true), (9, true), (10, true), (11, true), (12, true)] (by (try show Ex _ _); with_reducible repeat (first | exact ex_refl _ | assumption | refine ex_drewL ?_ | refine ex_appR ?_ _ | refine ex_wx ?_ _ | refine ex_drew ?_ | refine ex_alloc ?_ _)) (by kernel_rfl) (by kernel_rfl) (fun _ _ d _ _ h => by cases d <;> exact h) ?_
  simp only [List.map_cons, List.map_nil, nth]
  repeat (first | ((with_reducible refine wpSeq_look ?_); go_big_quiet_step (fail); (with_reducible refine wpQuiet_nil ?_)) | ((with_reducible refine wpSeq_effF ?_ ?_); (focus rfl); go_simp) | ((with_reducible refine wpSeq_eff ?_ ?_); (focus rfl); (try dsimp only); go_wp2_with (fail); refine mixQ_mk (by (try show Ex _ _); with_reducible repeat (first | exact ex_refl _ | assumption | refine ex_drewL ?_ | refine ex_appR ?_ _ | refine ex_wx ?_ _ | refine ex_drew ?_ | refine ex_alloc ?_ _)) ?_))
  refine wpSeq_nil ?_
  go_wp2
  go_ret
  exact post_mk' rfl (by (try show Ex _ _); with_reducible repeat (first | exact ex_refl _ | assumption | refine ex_drewL ?_ | refine ex_appR ?_ _ | refine ex_wx ?_ _ | refine ex_drew ?_ | refine ex_alloc ?_ _))
theorem snap_w {w : World} {p : Nat} {L : Loc} {d : Dk} {wl : Wl} (h : LgM w p L d wl) (h0 : 0 < wl.sh.length) (hb : (wl.sh.getD 0 []).length ≤ 50000) : Calls Tryd.prog 15 #[PT p] w (PostTb w (wl.sh.getD 0 [])) := by
  obtain ⟨sv, hp, hs⟩ := h.out
  have zp := (Array.getElem?_eq_some_iff.1 hp).1
  obtain ⟨a, c, rfl, h1, h2, _, _⟩ := hs.out
  have c10 := (block_cellF (o := 10) (v := .slice a wl.sh.length c) hp rfl).1
  obtain ⟨g, off, rfl, hg, u, hu, ht⟩ := hs.at (j := 0) h0
  obtain ⟨ua, uc, rfl, _⟩ := ht.out
  rw [Nat.add_zero] at hu
  have h0' : (0 : Int) < wl.sh.length := by omega
  have HC := Lib.hid fun w' (k : Ex w w') => cloneW_any (ht.slt.ex k) hb
  generalize wl.sh.getD 0 [] = b at *
  clear h hp hs ht
  go_enter Tryd.func15, Tryd.ntmps15
  go_wp2_with (go_at_call 46; (with_reducible refine (HC.out _ (by (try show Ex _ _); with_reducible repeat (first | exact ex_refl _ | assumption | refine ex_drewL ?_ | refine ex_appR ?_ _ | refine ex_wx ?_ _ | refine ex_drew ?_ | refine ex_alloc ?_ _))).mono ?_); rintro e w2 ⟨v2, rfl, hT, X, rfl⟩)
  go_ret
  exact ⟨v2, rfl, hT, (by (try show Ex _ _); with_reducible repeat (first | exact ex_refl _ | assumption | refine ex_drewL ?_ | refine ex_appR ?_ _ | refine ex_wx ?_ _ | refine ex_drew ?_ | refine ex_alloc ?_ _))⟩
/-- What is right of a log, whatever its disk. -/
structure LgOk (wl : Wl) : Prop where
  cb : CmB wl.c
  n : wl.c.n ≤ 1000
  un : wl.c.used ≤ wl.c.n
  s : wl.c.side ≤ 1
  a : wl.c.all = wl.sh.length
  a1 : 0 < wl.sh.length
  an : wl.sh.length ≤ 1000
  t : wl.c.turn ≤ 1073741824
theorem CmOk.lg {sz : Nat} {c : Cm} {sh : List By} (h : CmOk HW sz c sh) (br : Bool) : LgOk ⟨c, sh, br⟩ := by
  have h1 := flatW_len sh
  have h2 := h.u
  have h3 := h.un
  have h4 := h.n2
  have h5 := h.a
  have h6 := h.t2
  have h7 := h.s
  have h8 := h.a1
  exact ⟨⟨by show c.turn < _; omega, by show c.n < _; omega, by show c.side < _; omega, by show c.used < _; omega, by show c.all < _; omega, by show c.mark.length = 4; rw [h.m]; exact mark_len HW_len sh⟩, h.n2, h.un, h.s, h.a, by show 0 < sh.length; omega, by show sh.length ≤ 1000; omega, h.t2⟩
theorem put_any {w0 w : World} (G : Glob w0) (k0 : Ex w0 w) {p : Nat} {L : Loc} {d : Dk} {wl : Wl} (h : LgM w p L d wl) (ok : LgOk wl) (side : Nat) (ahead : Cm) (haB : CmB ahead) (v : Value) (b : By) (hs : TyB w v b) (hb : b.length ≤ 1000000)
    (h2 : ahead.used ≤ 1000) (h3 : side ≤ 1) (h4 : ahead.all ≤ wl.sh.length) (ho : ∀ x, L.own x → w0.heap.size ≤ x) (hpo : w0.heap.size ≤ p) (hops : d.ops + 2000 < 1000000000) (hq : d.qu.length + 2000 < 1000000) :
    Calls Tryd.prog 45 #[PT p, U4 side, .agg (CR ahead), v] w (PostLg p L w (putD HW d wl side ahead.used ahead.all ahead.mark b)) := by
  have h5 := ok.an
  by_cases hno : wl.br = true ∨ 50000 < b.length ∨ wl.c.n < ahead.used + secs b.length ∨ wl.c.turn = 1073741824
  · exact put_no h ok.cb side ahead haB v b hs hb ok.n h2 hno
  · have g1 : wl.br = false := by
      cases hbr : wl.br with
      | false => rfl
      | true => exact absurd (Or.inl hbr) hno
    have g2 : b.length ≤ 50000 := Nat.le_of_not_lt fun e => hno (Or.inr (Or.inl e))
    have g3 : ahead.used + secs b.length ≤ wl.c.n := Nat.le_of_not_lt fun e => hno (Or.inr (Or.inr (Or.inl e)))
    have g4 : wl.c.turn ≠ 1073741824 := fun e => hno (Or.inr (Or.inr (Or.inr e)))
    exact put_go G k0 h ok.cb side ahead haB v b hs ok.n h2 h3 h4 (by omega) ok.a1 ok.t ho hpo hops hq g1 g2 g3 g4
set_option maxHeartbeats 400000 in
theorem app_any {w0 w : World} (G : Glob w0) (k0 : Ex w0 w) {p : Nat} {L : Loc} {d : Dk} {wl : Wl} (h : LgM w p L d wl) (ok : LgOk wl) (v : Value) (b : By) (hs : TyB w v b) (hb : b.length ≤ 1000000)
    (ho : ∀ x, L.own x → w0.heap.size ≤ x) (hpo : w0.heap.size ≤ p) (hops : d.ops + 2000 < 1000000000) (hq : d.qu.length + 2000 < 1000000) :
    Calls Tryd.prog 13 #[PT p, v] w (PostLg p L w (appD HW d wl b)) := by
  obtain ⟨sv, hp, hsv⟩ := h.out
  have zp := (Array.getElem?_eq_some_iff.1 hp).1
  have c2 := (block_cellF (o := 2) (v := U4 wl.c.side) hp rfl).1
  have pc : cellsN w p 0 9 = some (CR wl.c) := cellsN_some.2 ⟨rfl, fun j hj => by
    rw [Nat.zero_add, cell_of_row w p j _ _ _ hp]
    match j, hj with
    | 0, _ => rfl
    | 1, _ => rfl
    | 2, _ => rfl
    | 3, _ => rfl
    | 4, _ => rfl
    | 5, _ => rfl
    | 6, _ => rfl
    | 7, _ => rfl
    | 8, _ => rfl⟩
  have hun := ok.un
  have hn := ok.n
  have HPt : Hid (∀ w', Ex w w' → Calls Tryd.prog 45 #[PT p, U4 wl.c.side, .agg (CR wl.c), v] w' (PostLg p L w' (putD HW d wl wl.c.side wl.c.used wl.c.all wl.c.mark b))) := Lib.hid fun w' k =>
    put_any G (ex_trans k0 k) (h.ex k) ok wl.c.side wl.c ok.cb v b (hs.ky (Ky.ex k)) hb (by omega) ok.s (by rw [ok.a]; exact Nat.le_refl _) ho hpo hops hq
  have hv1 : v.oneCell' = true := by obtain ⟨a, c, rfl, _⟩ := hs.out; rfl
  obtain ⟨va, vc, rfl, _⟩ := hs.out
  unfold appD
  generalize putD HW d wl wl.c.side wl.c.used wl.c.all wl.c.mark b = r at *
  clear h hs hp hsv
  go_enter Tryd.func13, Tryd.ntmps13
  go_wp2
  refine wp_region_forkH (fun w' => ∃ X, w' = kp w (fun x => x = p ∨ L.own x) X) (.look 0 (.look 1 (.look 2 (.look 3 (.look 4 (.look 6 (.look 7 (.look 8 (.look 10 (.fork 5 (.eff 9 (.eff 11 (.look 12 .done))) 9 (.eff 5 (.eff 11 (.look 12 .done))))))))))))) (⟨_, kp_of (fun _ _ _ => rfl)⟩) (by kernel_rfl) (by kernel_rfl) (fun _ _ d _ _ h => by cases d <;> exact h) ?_
  simp only [Fk.ops, nth]
  repeat (first | ((with_reducible refine wpForkH_look ?_); go_big_quiet_step (fail); (try (with_reducible refine wpQuiet_nil ?_))) | (with_reducible refine wpForkH_eff ?_) | ((with_reducible refine effH_F ?_ ?_); (focus rfl); go_simp) | ((with_reducible refine effH_T ?_ ?_); (focus rfl); (try dsimp only); go_wp2_with ((go_at_call 45; (with_reducible refine (HPt.out _ (by (try show Ex _ _); with_reducible repeat (first | exact ex_refl _ | assumption | refine ex_drewL ?_ | refine ex_appR ?_ _ | refine ex_wx ?_ _ | refine ex_drew ?_ | refine ex_alloc ?_ _))).mono ?_); rintro e w5 ⟨L2, rfl, hM5, hV5⟩; have HKp := Lib.hid ((Wv.ofDv (Dv.ofEx (show Ex w _ from (by (try show Ex _ _); with_reducible repeat (first | exact ex_refl _ | assumption | refine ex_drewL ?_ | refine ex_appR ?_ _ | refine ex_wx ?_ _ | refine ex_drew ?_ | refine ex_alloc ?_ _))))).trans hV5); replace hM5 := Lib.hid hM5; clear hV5)); (first | done | refine mixQH_mk (⟨_, kp_of (by first | exact HKp.out.fr.same | exact fun _ _ _ => rfl)⟩) ?_)))
  all_goals (try (with_reducible refine wpForkH_fork ?_ ?_))
  all_goals repeat (first | ((with_reducible refine wpForkH_look ?_); go_big_quiet_step (fail); (try (with_reducible refine wpQuiet_nil ?_))) | (with_reducible refine wpForkH_eff ?_) | ((with_reducible refine effH_F ?_ ?_); (focus rfl); go_simp) | ((with_reducible refine effH_T ?_ ?_); (focus rfl); (try dsimp only); go_wp2_with ((go_at_call 45; (with_reducible refine (HPt.out _ (by (try show Ex _ _); with_reducible repeat (first | exact ex_refl _ | assumption | refine ex_drewL ?_ | refine ex_appR ?_ _ | refine ex_wx ?_ _ | refine ex_drew ?_ | refine ex_alloc ?_ _))).mono ?_); rintro e w5 ⟨L2, rfl, hM5, hV5⟩; have HKp := Lib.hid ((Wv.ofDv (Dv.ofEx (show Ex w _ from (by (try show Ex _ _); with_reducible repeat (first | exact ex_refl _ | assumption | refine ex_drewL ?_ | refine ex_appR ?_ _ | refine ex_wx ?_ _ | refine ex_drew ?_ | refine ex_alloc ?_ _))))).trans hV5); replace hM5 := Lib.hid hM5; clear hV5)); (first | done | refine mixQH_mk (⟨_, kp_of (by first | exact HKp.out.fr.same | exact fun _ _ _ => rfl)⟩) ?_)))
  all_goals (with_reducible refine wpForkH_nil ?_)
  all_goals
    go_wp2
    go_ret
    exact ⟨L2, rfl, hM5.out, HKp.out⟩
def build0Run (P : Program) (t : TypeId) (w : World) : Result Next := ((Instr.build t #[]).run P w).andThen fun x w' => .ok (.value x) w'
@[go_sem ↓ high] theorem run_build0_pre {P : Program} (ρ : Operand → Value) (d : Option Tmp) (t : TypeId) (ty : TypeId) (pos : String) (aft : Array Edge) (g : Option (Nat × Bool)) (w : World) :
    Sem.run P (execOp ρ ⟨d, .build t #[], ty, pos, aft, g⟩) w = build0Run P t w := by
  simp only [execOp, Sem.run_bind, Sem.run_pure, build0Run, List.map_toArray, List.map_cons, List.map_nil]
@[go_sem low] theorem build0Run_other {P : Program} (t : TypeId) (w : World) : build0Run P t w = ((Instr.build t #[]).run P w).andThen fun x w' => .ok (.value x) w' := rfl
theorem built0_claim : Tryd.prog.built 62 [] = some #[.int .u32 0, .int .u32 0, .int .u32 0, .int .u32 0, .int .u32 0, .int .u8 0, .int .u8 0, .int .u8 0, .int .u8 0] := by kernel_rfl
@[go_sem] theorem build0_claim (w : World) : build0Run Tryd.prog 62 w = .ok (.value (.agg #[.int .u32 0, .int .u32 0, .int .u32 0, .int .u32 0, .int .u32 0, .int .u8 0, .int .u8 0, .int .u8 0, .int .u8 0])) w := by
  unfold build0Run
  rw [run_build w _ _ _ built0_claim]; rfl
def zeroC : Cm := ⟨0, 0, 0, 0, 0, [0, 0, 0, 0]⟩
theorem zeroC_row : CR zeroC = #[.int .u32 0, .int .u32 0, .int .u32 0, .int .u32 0, .int .u32 0, .int .u8 0, .int .u8 0, .int .u8 0, .int .u8 0] := by kernel_rfl
set_option maxHeartbeats 400000 in
theorem chk_any {w0 w : World} (G : Glob w0) (k0 : Ex w0 w) {p : Nat} {L : Loc} {d : Dk} {wl : Wl} (h : LgM w p L d wl) (ok : LgOk wl) (v : Value) (b : By) (hs : TyB w v b) (hb : b.length ≤ 1000000)
    (ho : ∀ x, L.own x → w0.heap.size ≤ x) (hpo : w0.heap.size ≤ p) (hops : d.ops + 2000 < 1000000000) (hq : d.qu.length + 2000 < 1000000) :
    Calls Tryd.prog 14 #[PT p, v] w (PostLg p L w (chkD HW d wl b)) := by
  obtain ⟨sv, hp, hsv⟩ := h.out
  have zp := (Array.getElem?_eq_some_iff.1 hp).1
  have c2 := (block_cellF (o := 2) (v := U4 wl.c.side) hp rfl).1
  have hs1 := ok.s
  obtain ⟨sd, hsd⟩ : ∃ sd, 1 - wl.c.side = sd := ⟨_, rfl⟩
  have e1 : (1 - (wl.c.side : Int)) = sd := by omega
  have e2 : sd ≤ 1 := by omega
  obtain ⟨va, vc, rfl, _⟩ := hs.out
  have hz : chkD HW d wl b = putD HW d wl sd zeroC.used zeroC.all zeroC.mark b := by
    unfold chkD
    rw [hsd]
    unfold zeroC
    rfl
  rw [hz]
  have HPt : Hid (∀ w', Ex w w' → Calls Tryd.prog 45 #[PT p, U4 sd, .agg (CR zeroC), .slice va b.length vc] w' (PostLg p L w' (putD HW d wl sd zeroC.used zeroC.all zeroC.mark b))) := Lib.hid fun w' k =>
    put_any G (ex_trans k0 k) (h.ex k) ok sd zeroC ⟨by decide, by decide, by decide, by decide, by decide, rfl⟩ _ b (hs.ky (Ky.ex k)) hb (Nat.zero_le _) e2 (Nat.zero_le _) ho hpo hops hq
  rw [zeroC_row] at HPt
  unfold U4 at HPt
  rw [← e1] at HPt
  clear e1
  obtain ⟨r, hr⟩ : ∃ r, putD HW d wl sd zeroC.used zeroC.all zeroC.mark b = r := ⟨_, rfl⟩
  rw [hr] at HPt ⊢
  clear hz
  clear h hs hp hsv hr hsd
  go_enter Tryd.func14, Tryd.ntmps14
  go_wp2_with (go_at_call 45; (with_reducible refine (HPt.out _ (by (try show Ex _ _); with_reducible repeat (first | exact ex_refl _ | assumption | refine ex_drewL ?_ | refine ex_appR ?_ _ | refine ex_wx ?_ _ | refine ex_drew ?_ | refine ex_alloc ?_ _))).mono ?_); rintro e w5 ⟨L2, rfl, hM5, hV5⟩; replace hM5 := Lib.hid hM5; replace hV5 := Lib.hid hV5)
  go_ret
  exact ⟨L2, rfl, hM5.out, (Wv.ofDv (Dv.ofEx (show Ex w _ from (by (try show Ex _ _); with_reducible repeat (first | exact ex_refl _ | assumption | refine ex_drewL ?_ | refine ex_appR ?_ _ | refine ex_wx ?_ _ | refine ex_drew ?_ | refine ex_alloc ?_ _))))).trans hV5.out⟩
end Go.Proofs.YtabjamkkhlbajaaDoor

/- The log: what the head in a sector says. -/
set_option linter.unusedSimpArgs false
set_option linter.unusedVariables false
set_option linter.unnecessarySimpa false
set_option maxRecDepth 20000
namespace Go.Proofs.YtabjamkkhlbajaaDoor
open Go.RowKit
theorem read0_new {A W : World} {v : Value} {l : By} (k : Ex A W) (hs : SlT A v l) (hl : l.length ≤ 1000) : Calls Tryd.prog 67 #[v] W (fun e w' => ∃ q, e = .returned (PT q) ∧ RdW A w' q v l 0 ∧ Ex W w') := by
  have hs' := hs
  obtain ⟨a, c, rfl, _⟩ := hs.out
  refine (read0_any a l.length c W).mono fun e w' ⟨he, hw⟩ => ?_
  subst hw
  exact ⟨_, he, RdW.new k hs' hl rfl (ex_refl _), ex_alloc (ex_refl _) _⟩
theorem u32x_any {A w : World} {q : Nat} {v : Value} {l : By} {k x : Nat} (h : RdW A w q v l k) (hk : k + 4 ≤ l.length) (hx : num4 (l.drop k) = x) :
    Calls Tryd.prog 68 #[PT q] w fun e w' => e = .returned (U4 x) ∧ RdW A w' q v l (k + 4) := by
  subst hx
  exact u32_any h hk
theorem raw4x_any {A w : World} {q : Nat} {v : Value} {l m : By} {k : Nat} (h : RdW A w q v l k) (hk : k + 4 ≤ l.length) (hm : (l.drop k).take 4 = m) (hl : m.length = 4) :
    Calls Tryd.prog 69 #[PT q, I 4] w fun e w' => ∃ g off c, e = .returned (.slice (some ⟨g, off, none⟩) 4 c) ∧ cellsN w' g off 4 = some (rowB 4 (gF m)) ∧ g < w'.heap.size ∧ RdW A w' q v l (k + 4) := by
  subst hm
  refine (raw4_any h hk).mono fun e w' hh => ?_
  obtain ⟨u, rfl, ht, h2⟩ := hh
  obtain ⟨a, c, rfl, h3, h4, h5, h6⟩ := ht.out
  rcases h6 with h0 | ⟨g, off, cs, fr, rfl, hb, hc⟩
  · rw [h0] at hl; simp at hl
  · refine ⟨g, off, c, by rw [hl], cellsN_some.2 ⟨by simp, fun j hj => ?_⟩, (Array.getElem?_eq_some_iff.1 hb).1, h2⟩
    rw [cell_of_row w' g (off + j) _ _ _ hb, rowB_get, if_pos hj]
    exact hc j (by rw [hl]; exact hj)
theorem num4_take (l : By) (m k : Nat) (h : k + 4 ≤ m) : num4 ((l.take m).drop k) = num4 (l.drop k) := by
  have e : ∀ i, i < 4 → ((l.take m).drop k).getD i 0 = (l.drop k).getD i 0 := fun i hi => by
    rw [List.getD_eq_getElem?_getD, List.getD_eq_getElem?_getD, List.getElem?_drop, List.getElem?_drop, List.getElem?_take_of_lt (by omega)]
  unfold num4
  rw [e 0 (by omega), e 1 (by omega), e 2 (by omega), e 3 (by omega)]
def rdB (sz at_ : Nat) (s : Bk) : Bool := rightC sz at_ (cmOf s) && decide (layB HW (cmOf s) = s)
theorem readC_rdB (sz at_ : Nat) (s : Bk) : readC HW sz at_ s = if rdB sz at_ s = true then some (cmOf s) else none := by
  unfold readC rdB
  simp only [Bool.and_eq_true, decide_eq_true_eq]
theorem zero_claim (c : Cm) : spliceA #[.int .u32 0, .int .u32 0, .int .u32 0, .int .u32 0, .int .u32 0, .int .u8 0, .int .u8 0, .int .u8 0, .int .u8 0] 0 (CR c).toList = CR c := by kernel_rfl
theorem eqF_blk (a b : Bk) : eqF (bkF a) (bkF b) 64 = decide (a = b) := by
  rw [Bool.eq_iff_iff, eqF_true, decide_eq_true_eq]
  exact ⟨fun h => bkF_inj h, fun h i _ => by rw [h]⟩
set_option maxHeartbeats 800000 in
theorem readw_any {w0 w : World} (G : Glob w0) (k0 : Ex w0 w) {L : Loc} {d : Dk} (h : DkAt w L d) (at_ : Nat) (hat : at_ ≤ 1) (s : Bk) :
    Calls Tryd.prog 41 #[PT L.p, I at_, .agg (rowB 64 (bkF s))] w (Post w (.tuple #[.agg (CR (cmOf s)), .bool (rdB d.has.length at_ s)])) := by
  obtain ⟨c, hc⟩ : ∃ c, cmOf s = c := ⟨_, rfl⟩
  have hbl := blkL_len s
  obtain ⟨l, hl⟩ : ∃ l, ((blkL s).drop 8).take 52 = l := ⟨_, rfl⟩
  have ll : l.length = 52 := by rw [← hl, List.length_take, List.length_drop, hbl]; rfl
  have hx0 : num4 (l.drop 0) = c.turn := by rw [← hl, num4_take _ _ _ (by omega), ← hc]; rfl
  have hd : ∀ k, k + 4 ≤ 52 → num4 (l.drop k) = num4 ((blkL s).drop (8 + k)) := fun k hk => by rw [← hl, num4_take _ _ _ hk, List.drop_drop]
  have hx1 : num4 (l.drop 4) = c.n := by rw [hd 4 (by omega), ← hc]; rfl
  have hx2 : num4 (l.drop 8) = c.side := by rw [hd 8 (by omega), ← hc]; rfl
  have hx3 : num4 (l.drop 12) = c.used := by rw [hd 12 (by omega), ← hc]; rfl
  have hx4 : num4 (l.drop 16) = c.all := by rw [hd 16 (by omega), ← hc]; rfl
  have hx5 : (l.drop 20).take 4 = c.mark := by
    rw [← hl, ← hc]
    show ((((blkL s).drop 8).take 52).drop 20).take 4 = ((blkL s).drop 28).take 4
    rw [List.drop_take, List.drop_drop, List.take_take]; rfl
  have hml : c.mark.length = 4 := by rw [← hx5, List.length_take, List.length_drop, ll]; rfl
  have b0 : c.turn < 4294967296 := by rw [← hx0]; exact num4_lt _
  have b1 : c.n < 4294967296 := by rw [← hx1]; exact num4_lt _
  have b2 : c.side < 4294967296 := by rw [← hx2]; exact num4_lt _
  have b3 : c.used < 4294967296 := by rw [← hx3]; exact num4_lt _
  have b4 : c.all < 4294967296 := by rw [← hx4]; exact num4_lt _
  have HS : Hid (∀ w', Ex (w.alloc (.cells (rowB 64 (bkF s)) 75)) w' → SlT w' (.slice (some ⟨w.heap.size, 8, none⟩) 52 56) l) := Lib.hid fun w' k => by
    have hb := ex_block k (heap_alloc_new w (.cells (rowB 64 (bkF s)) 75))
    refine ⟨_, 56, by rw [ll], by rw [ll]; omega, by decide, (fun e => by cases e), SlB.mk' (Array.getElem?_eq_some_iff.1 hb).1 fun j hj => ?_⟩
    rw [ll] at hj
    rw [cell_of_row w' w.heap.size (8 + j) _ _ _ hb, rowB_get, if_pos (by omega)]
    have : gF l j = bkF s (8 + j) := by
      rw [← hl]
      unfold gF
      rw [List.getD_eq_getElem?_getD, List.getElem?_take_of_lt hj, List.getElem?_drop, ← blkL_get, List.getD_eq_getElem?_getD]
    rw [this]
  have HL : Hid (∀ w', Ex w w' → Calls Tryd.prog 65 #[.agg (CR c)] w' (Post w' (.agg (rowB 64 (bkF (layB HW c)))))) := Lib.hid fun w' k => lay_any G (ex_trans k0 k) c b0 b1 b2 b3 b4 hml
  have HMy : Hid (∀ w', Ex w w' → Calls Tryd.prog 33 #[PT L.p, I c.n] w' (Post w' (.bool (mayI d c.n)))) := Lib.hid fun w' k => may_any (h.ex k) c.n
  have hres : rdB d.has.length at_ s = (decide ((1 : Int) ≤ c.turn) && decide ((c.turn : Int) ≤ 1073741824) && ((c.turn : Int) % 2 == at_) && decide ((c.n : Int) ≤ 1000) && mayI d c.n && decide ((c.side : Int) ≤ 1) && decide ((c.used : Int) ≤ c.n) && decide ((1 : Int) ≤ c.all) && eqF (bkF (layB HW c)) (bkF s) 64) := by
    unfold rdB rightC mayB mayI
    rw [eqF_blk, hc, Bool.eq_iff_iff]
    simp only [Bool.and_eq_true, decide_eq_true_eq, beq_iff_eq]
    constructor
    · rintro ⟨⟨⟨⟨⟨⟨⟨h1, h2⟩, h3⟩, ⟨h4, h5⟩, h6⟩, h7⟩, h8⟩, h9⟩, h10⟩
      refine ⟨⟨⟨⟨⟨⟨⟨⟨?_, ?_⟩, ?_⟩, ?_⟩, ⟨?_, ?_⟩, ?_⟩, ?_⟩, ?_⟩, ?_⟩, h10⟩ <;> omega
    · rintro ⟨⟨⟨⟨⟨⟨⟨⟨h1, h2⟩, h3⟩, h0⟩, ⟨h4, h5⟩, h6⟩, h7⟩, h8⟩, h9⟩, h10⟩
      refine ⟨⟨⟨⟨⟨⟨⟨?_, ?_⟩, ?_⟩, ⟨?_, ?_⟩, ?_⟩, ?_⟩, ?_⟩, ?_⟩, h10⟩ <;> omega
  rw [hres, hc]
  generalize bkF (layB HW c) = lb at *
  generalize bkF s = sb at *
  have Hx0 := Lib.hid hx0
  have Hx1 := Lib.hid hx1
  have Hx2 := Lib.hid hx2
  have Hx3 := Lib.hid hx3
  have Hx4 := Lib.hid hx4
  have Hx5 := Lib.hid hx5
  have Hml := Lib.hid hml
  have Hll := Lib.hid ll
  obtain ⟨mb, hmb⟩ : ∃ mb, mayI d c.n = mb := ⟨_, rfl⟩
  rw [hmb] at HMy ⊢
  clear hx0 hx1 hx2 hx3 hx4 hx5 hml ll hd hbl hl hc h hres hmb
  go_enter Tryd.func41, Tryd.ntmps41
  go_wp2_with (first | (go_at_call 67; (refine (read0_new (l := l) (ex_refl _) (HS.out _ (by (try show Ex _ _); with_reducible repeat (first | exact ex_refl _ | assumption | refine ex_drewL ?_ | refine ex_appR ?_ _ | refine ex_wx ?_ _ | refine ex_drew ?_ | refine ex_alloc ?_ _))) (by rw [Hll.out]; omega)).mono ?_); rintro e w2 ⟨q, rfl, H, kq⟩; replace H := Lib.hid H; clear kq) | (go_at_call 68; (refine (u32x_any (k := 0) H.out (by rw [Hll.out]; omega) Hx0.out).mono ?_); clear H; rintro e w3 ⟨rfl, H⟩; replace H := Lib.hid H) | (go_at_call 68; (refine (u32x_any (k := 4) H.out (by rw [Hll.out]; omega) Hx1.out).mono ?_); clear H; rintro e w3 ⟨rfl, H⟩; replace H := Lib.hid H) | (go_at_call 68; (refine (u32x_any (k := 8) H.out (by rw [Hll.out]; omega) Hx2.out).mono ?_); clear H; rintro e w3 ⟨rfl, H⟩; replace H := Lib.hid H) | (go_at_call 68; (refine (u32x_any (k := 12) H.out (by rw [Hll.out]; omega) Hx3.out).mono ?_); clear H; rintro e w3 ⟨rfl, H⟩; replace H := Lib.hid H) | (go_at_call 68; (refine (u32x_any (k := 16) H.out (by rw [Hll.out]; omega) Hx4.out).mono ?_); clear H; rintro e w3 ⟨rfl, H⟩; replace H := Lib.hid H) | (go_at_call 69; (refine (raw4x_any (k := 20) H.out (by rw [Hll.out]; omega) Hx5.out Hml.out).mono ?_); clear H; rintro e w4 ⟨gm, om, cm, rfl, cm4, zm, H⟩; have K4 : Ex w w4 := ex_trans (by (try show Ex _ _); with_reducible repeat (first | exact ex_refl _ | assumption | refine ex_drewL ?_ | refine ex_appR ?_ _ | refine ex_wx ?_ _ | refine ex_drew ?_ | refine ex_alloc ?_ _)) H.ex; have c6 := ex_block H.ex (heap_alloc_new (w.alloc (.cells (rowB 64 sb) 75)) (.cells #[.int .u32 0, .int .u32 0, .int .u32 0, .int .u32 0, .int .u32 0, .int .u8 0, .int .u8 0, .int .u8 0, .int .u8 0] 62)); simp only [World.size_alloc] at c6; replace c6 := Lib.hid c6; have c5 := Lib.hid (ex_block H.ex (ex_block (ex_alloc (ex_refl _) _) (heap_alloc_new w (.cells (rowB 64 sb) 75)))); clear H) | (go_at_call 33; (with_reducible refine (HMy.out _ (by (try show Ex _ _); with_reducible repeat (first | exact ex_refl _ | assumption | refine ex_drewL ?_ | refine ex_appR ?_ _ | refine ex_wx ?_ _ | refine ex_drew ?_ | refine ex_alloc ?_ _))).mono ?_); rintro e w5 ⟨rfl, X5, rfl⟩))
  all_goals
    refine wp_worldW fun A hA => ?_
    have kA : Ex w4 A := by rw [← hA]; exact (by (try show Ex _ _); with_reducible repeat (first | exact ex_refl _ | assumption | refine ex_drewL ?_ | refine ex_appR ?_ _ | refine ex_wx ?_ _ | refine ex_drew ?_ | refine ex_alloc ?_ _))
    have hb9 : A.heap[w4.heap.size]? = some (.cells (CR c) 62 (0, 0)) := by rw [← hA]; exact ex_block (w := w4.alloc (.cells (CR c) 62)) (by (try show Ex _ _); with_reducible repeat (first | exact ex_refl _ | assumption | refine ex_drewL ?_ | refine ex_appR ?_ _ | refine ex_wx ?_ _ | refine ex_drew ?_ | refine ex_alloc ?_ _)) (heap_alloc_new _ _)
    have hb6 := ex_block kA c6.out
    have hb5 := ex_block kA c5.out
    have kwA := ex_trans K4 kA
    clear hA
    have zw4 : w.heap.size + 1 < w4.heap.size := (Array.getElem?_eq_some_iff.1 c6.out).1
    obtain ⟨g9, hg9⟩ : ∃ g, w4.heap.size = g := ⟨_, rfl⟩
    rw [hg9] at hb9 zw4 ⊢
    obtain ⟨g6, hg6⟩ : ∃ g, w.heap.size + 1 = g := ⟨_, rfl⟩
    rw [hg6] at hb6 zw4 ⊢
    obtain ⟨g5, hg5⟩ : ∃ g, w.heap.size = g := ⟨_, rfl⟩
    rw [hg5] at hb5 ⊢
    have hwg : w.heap.size ≤ g6 := by omega
    obtain ⟨P1, hP1⟩ : ∃ P1 : Nat → Prop, P1 = fun x => x = g6 := ⟨_, rfl⟩
    have nw9 : ¬ P1 g9 := by rw [hP1]; show ¬ g9 = g6; omega
    have nw5 : ¬ P1 g5 := by rw [hP1]; show ¬ g5 = g6; omega
    have HP1 : Hid (∀ x, ¬ P1 x → x ≠ g6) := Lib.hid (by rw [hP1]; exact fun x hx => hx)
    obtain ⟨n9, f9, z9⟩ := block_cellsF (n := 9) hb9 rfl
    have d0 := (block_cellF (o := 0) (v := U4 c.turn) hb9 rfl).1
    have d1 := (block_cellF (o := 1) (v := U4 c.n) hb9 rfl).1
    have d2 := (block_cellF (o := 2) (v := U4 c.side) hb9 rfl).1
    have d3 := (block_cellF (o := 3) (v := U4 c.used) hb9 rfl).1
    have d4 := (block_cellF (o := 4) (v := U4 c.all) hb9 rfl).1
    obtain ⟨n5, f5, z5⟩ := block_cellsF (n := 64) hb5 (by simp)
    obtain ⟨n6, f6, z6⟩ := block_cellsF (n := 9) hb6 rfl
    have h6 := setCells_block g6 62 (0, 0) (CR c).toList 0 A _ hb6
    rw [zero_claim] at h6
    have HB6 : Hid (∀ w', Ex (A.setCells g6 0 (CR c).toList) w' → cellsN w' g6 0 9 = some (CR c)) := Lib.hid fun w' k => (block_cellsF (n := 9) (ex_block k h6) rfl).1
    replace kwA := Lib.hid kwA
    have HwA : Hid (∀ w', Ex A w' → Ex w w') := Lib.hid fun w' k => ex_trans kwA.out k
    clear hP1 hg9 hg6 hg5 hb9 hb6 hb5 h6 c5 c6 K4 cm4 zm
  · cases mb with
    | false => 
      refine wp_region_forkH (fun w' => ∃ X, w' = kp A P1 X) (.look 0 (.look 1 (.look 2 (.look 3 (.look 4 (.look 5 (.look 6 (.look 7 (.look 8 (.look 9 (.look 10 (.look 11 (.look 12 (.look 13 (.look 14 (.look 15 (.look 16 (.look 17 (.look 18 (.look 19 (.look 20 (.look 22 (.eff 21 (.look 23 (.look 24 (.eff 25 (.look 26 .done))))))))))))))))))))))))))) (⟨_, kp_of (fun _ _ _ => rfl)⟩) (by kernel_rfl) (by kernel_rfl) (fun _ _ d _ _ h => by cases d <;> exact h) ?_
      simp only [Fk.ops, nth]
      repeat (first | ((with_reducible refine wpForkH_look ?_); go_big_quiet_step (fail); (try (with_reducible refine wpQuiet_nil ?_))) | (with_reducible refine wpForkH_eff ?_) | ((with_reducible refine effH_F ?_ ?_); (focus rfl); go_simp) | ((with_reducible refine effH_T ?_ ?_); (focus rfl); (try dsimp only); go_wp2_with ((go_at_call 65; (with_reducible refine (HL.out _ (HwA.out _ (by (try show Ex _ _); with_reducible repeat (first | exact ex_refl _ | assumption | refine ex_drewL ?_ | refine ex_appR ?_ _ | refine ex_wx ?_ _ | refine ex_drew ?_ | refine ex_alloc ?_ _)))).mono ?_); rintro e w7 ⟨rfl, X7, rfl⟩)); (first | done | refine mixQH_mk (⟨_, kp_of (by intro x hx hp9; first | (refine (ex_below (?_ : Ex A _)).block x hx; (with_reducible repeat (first | exact ex_refl _ | assumption | refine ex_drewL ?_ | refine ex_appR ?_ _ | refine ex_wx ?_ _ | refine ex_drew ?_ | refine ex_alloc ?_ _)); done) | (refine ((ex_below (?_ : Ex (A.setCells g6 0 (CR c).toList) _)).block x (by rw [setCells_size]; exact hx)).trans (setCells_heap _ _ _ _ _ (HP1.out x hp9)); (with_reducible repeat (first | exact ex_refl _ | assumption | refine ex_drewL ?_ | refine ex_appR ?_ _ | refine ex_wx ?_ _ | refine ex_drew ?_ | refine ex_alloc ?_ _)); done))⟩) ?_)))
      all_goals (with_reducible refine wpForkH_nil ?_)
      go_wp2
      refine ret_rowV (cs := CR c) Tryd.results41 Tryd.underlying62 rfl info_clm rfl (HB6.out _ (by (try show Ex _ _); with_reducible repeat (first | exact ex_refl _ | assumption | refine ex_drewL ?_ | refine ex_appR ?_ _ | refine ex_wx ?_ _ | refine ex_drew ?_ | refine ex_alloc ?_ _))) rfl rfl ?_
      refine post_mk' (v' := .tuple #[.agg (CR c), .bool false]) (congrArg (fun b => Value.tuple #[.agg (CR c), .bool b]) (Eq.symm ?_)) (by show Ex _ _; repeat (first | (with_reducible assumption) | (with_reducible exact ex_refl _) | (with_reducible refine ex_wx ?_ _) | (with_reducible refine ex_drew ?_) | (with_reducible refine ex_alloc ?_ _) | (with_reducible refine ex_setCells ?_ hwg _ _) | (with_reducible exact HwA.out _ (ex_refl _))))
      rw [Bool.eq_false_iff]
      intro hh
      simp only [Bool.and_eq_true, decide_eq_true_eq, beq_iff_eq, Bool.false_eq_true, and_false, false_and] at hh
      try omega
    | true =>
      by_cases m6 : (c.side : Int) ≤ 1
      · have t6 : decide ((c.side : Int) ≤ 1) = true := decide_eq_true m6
        by_cases m7 : (c.used : Int) ≤ c.n
        · have t7 : decide ((c.used : Int) ≤ c.n) = true := decide_eq_true m7
          by_cases m8 : (1 : Int) ≤ c.all
          · have t8 : decide ((1 : Int) ≤ c.all) = true := decide_eq_true m8
            refine wp_region_forkH (fun w' => ∃ X, w' = kp A P1 X) (.look 0 (.look 1 (.look 2 (.look 3 (.look 4 (.look 5 (.look 6 (.look 7 (.look 8 (.look 9 (.look 10 (.look 11 (.look 12 (.look 13 (.look 14 (.look 15 (.look 16 (.look 17 (.look 18 (.look 19 (.look 20 (.look 22 (.eff 21 (.look 23 (.look 24 (.eff 25 (.look 26 .done))))))))))))))))))))))))))) (⟨_, kp_of (fun _ _ _ => rfl)⟩) (by kernel_rfl) (by kernel_rfl) (fun _ _ d _ _ h => by cases d <;> exact h) ?_
            simp only [Fk.ops, nth]
            repeat (first | ((with_reducible refine wpForkH_look ?_); go_big_quiet_step (fail); (try (with_reducible refine wpQuiet_nil ?_))) | (with_reducible refine wpForkH_eff ?_) | ((with_reducible refine effH_F ?_ ?_); (focus rfl); go_simp) | ((with_reducible refine effH_T ?_ ?_); (focus rfl); (try dsimp only); go_wp2_with ((go_at_call 65; (with_reducible refine (HL.out _ (HwA.out _ (by (try show Ex _ _); with_reducible repeat (first | exact ex_refl _ | assumption | refine ex_drewL ?_ | refine ex_appR ?_ _ | refine ex_wx ?_ _ | refine ex_drew ?_ | refine ex_alloc ?_ _)))).mono ?_); rintro e w7 ⟨rfl, X7, rfl⟩)); (first | done | refine mixQH_mk (⟨_, kp_of (by intro x hx hp9; first | (refine (ex_below (?_ : Ex A _)).block x hx; (with_reducible repeat (first | exact ex_refl _ | assumption | refine ex_drewL ?_ | refine ex_appR ?_ _ | refine ex_wx ?_ _ | refine ex_drew ?_ | refine ex_alloc ?_ _)); done) | (refine ((ex_below (?_ : Ex (A.setCells g6 0 (CR c).toList) _)).block x (by rw [setCells_size]; exact hx)).trans (setCells_heap _ _ _ _ _ (HP1.out x hp9)); (with_reducible repeat (first | exact ex_refl _ | assumption | refine ex_drewL ?_ | refine ex_appR ?_ _ | refine ex_wx ?_ _ | refine ex_drew ?_ | refine ex_alloc ?_ _)); done))⟩) ?_)))
            all_goals (with_reducible refine wpForkH_nil ?_)
            go_wp2
            refine ret_rowV (cs := CR c) Tryd.results41 Tryd.underlying62 rfl info_clm rfl (HB6.out _ (by (try show Ex _ _); with_reducible repeat (first | exact ex_refl _ | assumption | refine ex_drewL ?_ | refine ex_appR ?_ _ | refine ex_wx ?_ _ | refine ex_drew ?_ | refine ex_alloc ?_ _))) rfl rfl ?_
            refine post_mk' (v' := .tuple #[.agg (CR c), .bool (eqF lb sb 64)]) (congrArg (fun b => Value.tuple #[.agg (CR c), .bool b]) (Eq.symm ?_)) (by show Ex _ _; repeat (first | (with_reducible assumption) | (with_reducible exact ex_refl _) | (with_reducible refine ex_wx ?_ _) | (with_reducible refine ex_drew ?_) | (with_reducible refine ex_alloc ?_ _) | (with_reducible refine ex_setCells ?_ hwg _ _) | (with_reducible exact HwA.out _ (ex_refl _))))
            rw [Bool.eq_iff_iff]
            simp only [Bool.and_eq_true, decide_eq_true_eq, beq_iff_eq]
            exact ⟨fun hh => hh.2, fun hh => ⟨⟨⟨⟨⟨⟨⟨⟨by omega, by omega⟩, by omega⟩, by omega⟩, trivial⟩, by omega⟩, by omega⟩, by omega⟩, hh⟩⟩
          · have t8 : decide ((1 : Int) ≤ c.all) = false := decide_eq_false m8
            refine wp_region_forkH (fun w' => ∃ X, w' = kp A P1 X) (.look 0 (.look 1 (.look 2 (.look 3 (.look 4 (.look 5 (.look 6 (.look 7 (.look 8 (.look 9 (.look 10 (.look 11 (.look 12 (.look 13 (.look 14 (.look 15 (.look 16 (.look 17 (.look 18 (.look 19 (.look 20 (.look 22 (.eff 21 (.look 23 (.look 24 (.eff 25 (.look 26 .done))))))))))))))))))))))))))) (⟨_, kp_of (fun _ _ _ => rfl)⟩) (by kernel_rfl) (by kernel_rfl) (fun _ _ d _ _ h => by cases d <;> exact h) ?_
            simp only [Fk.ops, nth]
            repeat (first | ((with_reducible refine wpForkH_look ?_); go_big_quiet_step (fail); (try (with_reducible refine wpQuiet_nil ?_))) | (with_reducible refine wpForkH_eff ?_) | ((with_reducible refine effH_F ?_ ?_); (focus rfl); go_simp) | ((with_reducible refine effH_T ?_ ?_); (focus rfl); (try dsimp only); go_wp2_with ((go_at_call 65; (with_reducible refine (HL.out _ (HwA.out _ (by (try show Ex _ _); with_reducible repeat (first | exact ex_refl _ | assumption | refine ex_drewL ?_ | refine ex_appR ?_ _ | refine ex_wx ?_ _ | refine ex_drew ?_ | refine ex_alloc ?_ _)))).mono ?_); rintro e w7 ⟨rfl, X7, rfl⟩)); (first | done | refine mixQH_mk (⟨_, kp_of (by intro x hx hp9; first | (refine (ex_below (?_ : Ex A _)).block x hx; (with_reducible repeat (first | exact ex_refl _ | assumption | refine ex_drewL ?_ | refine ex_appR ?_ _ | refine ex_wx ?_ _ | refine ex_drew ?_ | refine ex_alloc ?_ _)); done) | (refine ((ex_below (?_ : Ex (A.setCells g6 0 (CR c).toList) _)).block x (by rw [setCells_size]; exact hx)).trans (setCells_heap _ _ _ _ _ (HP1.out x hp9)); (with_reducible repeat (first | exact ex_refl _ | assumption | refine ex_drewL ?_ | refine ex_appR ?_ _ | refine ex_wx ?_ _ | refine ex_drew ?_ | refine ex_alloc ?_ _)); done))⟩) ?_)))
            all_goals (with_reducible refine wpForkH_nil ?_)
            go_wp2
            refine ret_rowV (cs := CR c) Tryd.results41 Tryd.underlying62 rfl info_clm rfl (HB6.out _ (by (try show Ex _ _); with_reducible repeat (first | exact ex_refl _ | assumption | refine ex_drewL ?_ | refine ex_appR ?_ _ | refine ex_wx ?_ _ | refine ex_drew ?_ | refine ex_alloc ?_ _))) rfl rfl ?_
            refine post_mk' (v' := .tuple #[.agg (CR c), .bool false]) (congrArg (fun b => Value.tuple #[.agg (CR c), .bool b]) (Eq.symm ?_)) (by show Ex _ _; repeat (first | (with_reducible assumption) | (with_reducible exact ex_refl _) | (with_reducible refine ex_wx ?_ _) | (with_reducible refine ex_drew ?_) | (with_reducible refine ex_alloc ?_ _) | (with_reducible refine ex_setCells ?_ hwg _ _) | (with_reducible exact HwA.out _ (ex_refl _))))
            rw [Bool.eq_false_iff]
            intro hh
            simp only [Bool.and_eq_true, decide_eq_true_eq, beq_iff_eq, Bool.false_eq_true, and_false, false_and] at hh
            try omega
        · have t7 : decide ((c.used : Int) ≤ c.n) = false := decide_eq_false m7
          refine wp_region_forkH (fun w' => ∃ X, w' = kp A P1 X) (.look 0 (.look 1 (.look 2 (.look 3 (.look 4 (.look 5 (.look 6 (.look 7 (.look 8 (.look 9 (.look 10 (.look 11 (.look 12 (.look 13 (.look 14 (.look 15 (.look 16 (.look 17 (.look 18 (.look 19 (.look 20 (.look 22 (.eff 21 (.look 23 (.look 24 (.eff 25 (.look 26 .done))))))))))))))))))))))))))) (⟨_, kp_of (fun _ _ _ => rfl)⟩) (by kernel_rfl) (by kernel_rfl) (fun _ _ d _ _ h => by cases d <;> exact h) ?_
          simp only [Fk.ops, nth]
          repeat (first | ((with_reducible refine wpForkH_look ?_); go_big_quiet_step (fail); (try (with_reducible refine wpQuiet_nil ?_))) | (with_reducible refine wpForkH_eff ?_) | ((with_reducible refine effH_F ?_ ?_); (focus rfl); go_simp) | ((with_reducible refine effH_T ?_ ?_); (focus rfl); (try dsimp only); go_wp2_with ((go_at_call 65; (with_reducible refine (HL.out _ (HwA.out _ (by (try show Ex _ _); with_reducible repeat (first | exact ex_refl _ | assumption | refine ex_drewL ?_ | refine ex_appR ?_ _ | refine ex_wx ?_ _ | refine ex_drew ?_ | refine ex_alloc ?_ _)))).mono ?_); rintro e w7 ⟨rfl, X7, rfl⟩)); (first | done | refine mixQH_mk (⟨_, kp_of (by intro x hx hp9; first | (refine (ex_below (?_ : Ex A _)).block x hx; (with_reducible repeat (first | exact ex_refl _ | assumption | refine ex_drewL ?_ | refine ex_appR ?_ _ | refine ex_wx ?_ _ | refine ex_drew ?_ | refine ex_alloc ?_ _)); done) | (refine ((ex_below (?_ : Ex (A.setCells g6 0 (CR c).toList) _)).block x (by rw [setCells_size]; exact hx)).trans (setCells_heap _ _ _ _ _ (HP1.out x hp9)); (with_reducible repeat (first | exact ex_refl _ | assumption | refine ex_drewL ?_ | refine ex_appR ?_ _ | refine ex_wx ?_ _ | refine ex_drew ?_ | refine ex_alloc ?_ _)); done))⟩) ?_)))
          all_goals (with_reducible refine wpForkH_nil ?_)
          go_wp2
          refine ret_rowV (cs := CR c) Tryd.results41 Tryd.underlying62 rfl info_clm rfl (HB6.out _ (by (try show Ex _ _); with_reducible repeat (first | exact ex_refl _ | assumption | refine ex_drewL ?_ | refine ex_appR ?_ _ | refine ex_wx ?_ _ | refine ex_drew ?_ | refine ex_alloc ?_ _))) rfl rfl ?_
          refine post_mk' (v' := .tuple #[.agg (CR c), .bool false]) (congrArg (fun b => Value.tuple #[.agg (CR c), .bool b]) (Eq.symm ?_)) (by show Ex _ _; repeat (first | (with_reducible assumption) | (with_reducible exact ex_refl _) | (with_reducible refine ex_wx ?_ _) | (with_reducible refine ex_drew ?_) | (with_reducible refine ex_alloc ?_ _) | (with_reducible refine ex_setCells ?_ hwg _ _) | (with_reducible exact HwA.out _ (ex_refl _))))
          rw [Bool.eq_false_iff]
          intro hh
          simp only [Bool.and_eq_true, decide_eq_true_eq, beq_iff_eq, Bool.false_eq_true, and_false, false_and] at hh
          try omega
      · have t6 : decide ((c.side : Int) ≤ 1) = false := decide_eq_false m6
        refine wp_region_forkH (fun w' => ∃ X, w' = kp A P1 X) (.look 0 (.look 1 (.look 2 (.look 3 (.look 4 (.look 5 (.look 6 (.look 7 (.look 8 (.look 9 (.look 10 (.look 11 (.look 12 (.look 13 (.look 14 (.look 15 (.look 16 (.look 17 (.look 18 (.look 19 (.look 20 (.look 22 (.eff 21 (.look 23 (.look 24 (.eff 25 (.look 26 .done))))))))))))))))))))))))))) (⟨_, kp_of (fun _ _ _ => rfl)⟩) (by kernel_rfl) (by kernel_rfl) (fun _ _ d _ _ h => by cases d <;> exact h) ?_
        simp only [Fk.ops, nth]
        repeat (first | ((with_reducible refine wpForkH_look ?_); go_big_quiet_step (fail); (try (with_reducible refine wpQuiet_nil ?_))) | (with_reducible refine wpForkH_eff ?_) | ((with_reducible refine effH_F ?_ ?_); (focus rfl); go_simp) | ((with_reducible refine effH_T ?_ ?_); (focus rfl); (try dsimp only); go_wp2_with ((go_at_call 65; (with_reducible refine (HL.out _ (HwA.out _ (by (try show Ex _ _); with_reducible repeat (first | exact ex_refl _ | assumption | refine ex_drewL ?_ | refine ex_appR ?_ _ | refine ex_wx ?_ _ | refine ex_drew ?_ | refine ex_alloc ?_ _)))).mono ?_); rintro e w7 ⟨rfl, X7, rfl⟩)); (first | done | refine mixQH_mk (⟨_, kp_of (by intro x hx hp9; first | (refine (ex_below (?_ : Ex A _)).block x hx; (with_reducible repeat (first | exact ex_refl _ | assumption | refine ex_drewL ?_ | refine ex_appR ?_ _ | refine ex_wx ?_ _ | refine ex_drew ?_ | refine ex_alloc ?_ _)); done) | (refine ((ex_below (?_ : Ex (A.setCells g6 0 (CR c).toList) _)).block x (by rw [setCells_size]; exact hx)).trans (setCells_heap _ _ _ _ _ (HP1.out x hp9)); (with_reducible repeat (first | exact ex_refl _ | assumption | refine ex_drewL ?_ | refine ex_appR ?_ _ | refine ex_wx ?_ _ | refine ex_drew ?_ | refine ex_alloc ?_ _)); done))⟩) ?_)))
        all_goals (with_reducible refine wpForkH_nil ?_)
        go_wp2
        refine ret_rowV (cs := CR c) Tryd.results41 Tryd.underlying62 rfl info_clm rfl (HB6.out _ (by (try show Ex _ _); with_reducible repeat (first | exact ex_refl _ | assumption | refine ex_drewL ?_ | refine ex_appR ?_ _ | refine ex_wx ?_ _ | refine ex_drew ?_ | refine ex_alloc ?_ _))) rfl rfl ?_
        refine post_mk' (v' := .tuple #[.agg (CR c), .bool false]) (congrArg (fun b => Value.tuple #[.agg (CR c), .bool b]) (Eq.symm ?_)) (by show Ex _ _; repeat (first | (with_reducible assumption) | (with_reducible exact ex_refl _) | (with_reducible refine ex_wx ?_ _) | (with_reducible refine ex_drew ?_) | (with_reducible refine ex_alloc ?_ _) | (with_reducible refine ex_setCells ?_ hwg _ _) | (with_reducible exact HwA.out _ (ex_refl _))))
        rw [Bool.eq_false_iff]
        intro hh
        simp only [Bool.and_eq_true, decide_eq_true_eq, beq_iff_eq, Bool.false_eq_true, and_false, false_and] at hh
        try omega
  all_goals
    refine wp_region_forkH (fun w' => ∃ X, w' = kp A P1 X) (.look 0 (.look 1 (.look 2 (.look 3 (.look 4 (.look 5 (.look 6 (.look 7 (.look 8 (.look 9 (.look 10 (.look 11 (.look 12 (.look 13 (.look 14 (.look 15 (.look 16 (.look 17 (.look 18 (.look 19 (.look 20 (.look 22 (.eff 21 (.look 23 (.look 24 (.eff 25 (.look 26 .done))))))))))))))))))))))))))) (⟨_, kp_of (fun _ _ _ => rfl)⟩) (by kernel_rfl) (by kernel_rfl) (fun _ _ d _ _ h => by cases d <;> exact h) ?_
    simp only [Fk.ops, nth]
    repeat (first | ((with_reducible refine wpForkH_look ?_); go_big_quiet_step (fail); (try (with_reducible refine wpQuiet_nil ?_))) | (with_reducible refine wpForkH_eff ?_) | ((with_reducible refine effH_F ?_ ?_); (focus rfl); go_simp) | ((with_reducible refine effH_T ?_ ?_); (focus rfl); (try dsimp only); go_wp2_with ((go_at_call 65; (with_reducible refine (HL.out _ (HwA.out _ (by (try show Ex _ _); with_reducible repeat (first | exact ex_refl _ | assumption | refine ex_drewL ?_ | refine ex_appR ?_ _ | refine ex_wx ?_ _ | refine ex_drew ?_ | refine ex_alloc ?_ _)))).mono ?_); rintro e w7 ⟨rfl, X7, rfl⟩)); (first | done | refine mixQH_mk (⟨_, kp_of (by intro x hx hp9; first | (refine (ex_below (?_ : Ex A _)).block x hx; (with_reducible repeat (first | exact ex_refl _ | assumption | refine ex_drewL ?_ | refine ex_appR ?_ _ | refine ex_wx ?_ _ | refine ex_drew ?_ | refine ex_alloc ?_ _)); done) | (refine ((ex_below (?_ : Ex (A.setCells g6 0 (CR c).toList) _)).block x (by rw [setCells_size]; exact hx)).trans (setCells_heap _ _ _ _ _ (HP1.out x hp9)); (with_reducible repeat (first | exact ex_refl _ | assumption | refine ex_drewL ?_ | refine ex_appR ?_ _ | refine ex_wx ?_ _ | refine ex_drew ?_ | refine ex_alloc ?_ _)); done))⟩) ?_)))
    all_goals (with_reducible refine wpForkH_nil ?_)
    go_wp2
    refine ret_rowV (cs := CR c) Tryd.results41 Tryd.underlying62 rfl info_clm rfl (HB6.out _ (by (try show Ex _ _); with_reducible repeat (first | exact ex_refl _ | assumption | refine ex_drewL ?_ | refine ex_appR ?_ _ | refine ex_wx ?_ _ | refine ex_drew ?_ | refine ex_alloc ?_ _))) rfl rfl ?_
    refine post_mk' (v' := .tuple #[.agg (CR c), .bool false]) (congrArg (fun b => Value.tuple #[.agg (CR c), .bool b]) (Eq.symm ?_)) (by show Ex _ _; repeat (first | (with_reducible assumption) | (with_reducible exact ex_refl _) | (with_reducible refine ex_wx ?_ _) | (with_reducible refine ex_drew ?_) | (with_reducible refine ex_alloc ?_ _) | (with_reducible refine ex_setCells ?_ hwg _ _) | (with_reducible exact HwA.out _ (ex_refl _))))
    rw [Bool.eq_false_iff]
    intro hh
    simp only [Bool.and_eq_true, decide_eq_true_eq, beq_iff_eq, Bool.false_eq_true, and_false, false_and] at hh
    try omega
end Go.Proofs.YtabjamkkhlbajaaDoor
