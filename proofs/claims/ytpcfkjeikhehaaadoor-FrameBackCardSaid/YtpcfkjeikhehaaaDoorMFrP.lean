import Derived.Test.YtpcfkjeikhehaaaDoorMFrH
import Derived.Test.YtpcfkjeikhehaaaDoorMSeqH

/- Bytes of parts: raw, lists of entries and of members. -/
set_option linter.unusedSimpArgs false
set_option linter.unusedVariables false
set_option maxRecDepth 20000
namespace Go.Proofs.YtpcfkjeikhehaaaDoor
open Go.RowKit
theorem ex_drewR {w u : World} (h : Ex w.drew u) : Ex w u := h
theorem App.ofEx' {w w' u : World} {v x : Value} (h : App w w' v x) (k : Ex w' u) : App w u v x := h.trans (App.ofEx k x)
theorem App.after {w w' u : World} {v x : Value} (k : Ex w w') (h : App w' u v x) : App w u v x := (App.ofEx k v).trans h
theorem raw_any {A : World} (l r : List UInt8) (v vx : Value) (w : World) (hA : Ex A w) (hown : OwnL w A.heap.size v l) (hr : SlT A vx r) (hl : l.length ≤ 1000000) (hrl : r.length ≤ 1000000) :
    Calls Tryd.prog 58 #[v, vx] w fun e w' => ∃ v', e = .returned v' ∧ OwnL w' A.heap.size v' (l ++ (shortL r.length ++ r)) ∧ App w w' v v' := by
  have hz := ex_size hA
  have HR := Lib.hid hr
  have HS := Lib.hid (fun w' => short_any r.length w' (by omega))
  have hsl := shortL_len (x := r.length) (by omega)
  have HO := Lib.hid hown
  obtain ⟨a, c, rfl, hc, hcm, ha, hx⟩ := hr.out
  have w1 : IntKind.u64.wrap (r.length : Int) = r.length := wrap_u64_nat _ (by omega)
  clear hx hr hown ha
  generalize hn : r.length = n at *
  go_enter Tryd.func58, Tryd.ntmps58
  go_wp2_with (first | (go_at_call 11; (with_reducible refine (HS.out _).mono ?_); rintro e w2 ⟨s, rfl, hS, k2⟩) | (at_builtin; refine wpAppT _ _ rfl rfl hO1 rfl rfl (HR.out.ex (hA1.ex (ex_trans hA k2) (HO.out.ex k2))) (by simp; omega) (Nat.le_trans hz (Nat.le_trans (ex_size k2) hA1.size)) (fun v2 w4 hO2 hA2 => ?_)) | (at_builtin; refine wpAppT _ _ rfl rfl (HO.out.ex k2) rfl rfl hS.slt (by omega) (Nat.le_trans hz (ex_size k2)) (fun v1 w3 hO1 hA1 => ?_)))
  go_ret
  refine ⟨_, rfl, ?_, App.after k2 (hA1.trans hA2)⟩
  rw [List.append_assoc] at hO2
  exact hO2
theorem SlT.app {w w' : World} {v v' s : Value} {r : List UInt8} (h : SlT w s r) (k : App w w' v v') (hb : ∀ g, s.ownBlock = some g → v.ownBlock ≠ some g) : SlT w' s r := by
  obtain ⟨a, c, rfl, h1, h2, h3, h4⟩ := h.out
  refine ⟨a, c, rfl, h1, h2, h3, ?_⟩
  rcases h4.out with h0 | ⟨g, off, rfl, hg, hc⟩
  · exact ⟨Or.inl h0⟩
  · refine SlB.mk' (Nat.lt_of_lt_of_le hg k.size) fun j hj => ?_
    rw [← hc j hj]
    simp only [World.cell?, k.block g hg (hb g rfl)]
theorem own_kept {w w' : World} {Z : Nat} {t : TypeId} {s : Nat} {v : Value} {n : Nat} {xs : List Value} (h : w.ownsRow Z t s v n xs) (hg : ∀ g, v.ownBlock = some g → w'.heap[g]? = w.heap[g]?) : w'.ownsRow Z t s v n xs := by
  refine ⟨h.1, ?_⟩
  rcases h.2 with h2 | ⟨g, cap, cur, rfl, h3, h4, h5⟩
  · exact .inl h2
  · exact .inr ⟨g, cap, cur, rfl, h3, (hg g rfl).trans h4, h5⟩
theorem setCell_heap {w : World} {b o : Nat} (v : Value) {k : Nat} (h : k ≠ b) : (w.setCell ⟨b, o, none⟩ v).heap[k]? = w.heap[k]? := by
  simp only [World.setCell, Array.getElem?_modify]
  rw [if_neg (by simpa using Ne.symm h)]
theorem setCell_block {w : World} {b o : Nat} {cs : Array Value} {t : TypeId} {fr : Nat × Nat} (v : Value) (h : w.heap[b]? = some (.cells cs t fr)) : (w.setCell ⟨b, o, none⟩ v).heap[b]? = some (.cells (cs.setIfInBounds o v) t fr) := by
  simp [World.setCell, Array.getElem?_modify, h]
theorem block_cell {w : World} {b o : Nat} {cs : Array Value} {t : TypeId} {v : Value} (h : w.heap[b]? = some (.cells cs t (0, 0))) (hv : cs[o]? = some v) : w.cell? ⟨b, o, none⟩ = some v ∧ w.frozen? ⟨b, o, none⟩ = false := by
  refine ⟨?_, ?_⟩
  · rw [cell_of_row w b o cs t (0, 0) h]; exact hv
  · simp [World.frozen?, h]
theorem ex_of_alloc (w : World) (ob : Obj) (b : Nat) (h : b < w.heap.size) : (w.alloc ob).heap[b]? = w.heap[b]? := by
  show (w.heap.push ob)[b]? = _
  rw [Array.getElem?_push, if_neg (by omega)]
theorem bn_byteI (n : Int) : bn (byteI n) = n % 256 := by
  unfold bn byteI
  rw [UInt8.toNat_ofNat_of_lt' (by show _ < 256; omega)]
  omega
set_option maxHeartbeats 2000000 in
theorem plain1_any {A : World} (l : List UInt8) (t : UInt64) (e : En) (v dv : Value) (p : Nat) (w : World) (hA : Ex A w) (hown : OwnL w A.heap.size v l) (hd : SlT A dv e.2.2)
    (hp : w.heap[p]? = some (.cells #[L t] 25 (0, 0))) (hpA : A.heap.size ≤ p) (hne : v.ownBlock ≠ some p) (hl : l.length ≤ 900000) (hdl : e.2.2.length ≤ 90000) :
    Calls Tryd.prog 57 #[v, .agg #[L e.1, I e.2.1, dv], .pointer (some ⟨p, 0, none⟩)] w fun e' w' => ∃ v', e' = .returned v' ∧ OwnL w' A.heap.size v' (l ++ entL t e) ∧ Ex A w' ∧ w'.heap[p]? = some (.cells #[L e.1] 25 (0, 0)) ∧ v'.ownBlock ≠ some p := by
  obtain ⟨et, ek, ed⟩ := e
  simp only at hd hdl ⊢
  have hz := ex_size hA
  have hps : p < w.heap.size := (Array.getElem?_eq_some_iff.1 hp).1
  have hvs : ∀ g, v.ownBlock = some g → g < w.heap.size := fun g hg => (World.ownsRow.lt hown g hg).2
  have hvq : v.ownBlock ≠ some w.heap.size := fun h => by have := hvs _ h; omega
  obtain ⟨c0, f0⟩ := block_cell (o := 0) hp rfl
  obtain ⟨x, hx⟩ : ∃ x, et - t = x := ⟨_, rfl⟩
  have hsub : IntKind.u64.wrap (ln et - ln t) = (x.toNat : Int) := by
    rw [← hx, IntKind.wrap_u64]; unfold ln
    rw [UInt64.toNat_sub]
    have := et.toNat_lt
    have := t.toNat_lt
    simp only [Nat.reducePow, Int.natCast_emod, Int.natCast_add]
    omega
  have HS := Lib.hid (fun w' => short_any x.toNat w' (u64_toNat x))
  have hsl := shortL_len (u64_toNat x)
  have HB := Lib.hid (bn_byteI ek)
  have HO := Lib.hid hown
  have HD := Lib.hid hd
  have HP := Lib.hid hp
  clear hown hd hp
  have hq0 : (w.alloc (.cells #[L et, I ek, dv] 60)).heap[w.heap.size]? = some (.cells #[L et, I ek, dv] 60 (0, 0)) := heap_alloc_new w _
  have hp0 : (w.alloc (.cells #[L et, I ek, dv] 60)).heap[p]? = some (.cells #[L t] 25 (0, 0)) := (ex_of_alloc w _ p hps).trans HP.out
  have hs0 : (w.alloc (.cells #[L et, I ek, dv] 60)).heap.size = w.heap.size + 1 := by simp [go_sem]
  have hk0 : Ex w (w.alloc (.cells #[L et, I ek, dv] 60)) := ex_alloc (ex_refl _) _
  replace hq0 := Lib.hid hq0
  replace hp0 := Lib.hid hp0
  go_enter Tryd.func57, Tryd.ntmps57
  go_wp2
  generalize w.alloc (.cells #[L et, I ek, dv] 60) = W0 at *
  have hcur : Hid (App W0 W0 v v) := Lib.hid (App.ofEx (ex_refl _) v)
  obtain ⟨r0, _⟩ := block_cell (o := 0) hq0.out rfl
  obtain ⟨r1, _⟩ := block_cell (o := 1) hq0.out rfl
  obtain ⟨r2, _⟩ := block_cell (o := 2) hq0.out rfl
  obtain ⟨r3, _⟩ := block_cell (o := 0) hp0.out rfl
  have z1 : w.heap.size < W0.heap.size := by omega
  have z2 : p < W0.heap.size := by omega
  have hzW : A.heap.size ≤ W0.heap.size := by omega
  clear c0 f0 HP
  have K := hk0
  refine wp_region_forkH (fun w' => ∃ X, w' = kx W0 v.ownBlock X) (.look 0 (.look 1 (.look 2 (.look 3 (.look 4 (.look 7 (.look 8 (.look 9 (.fork 5 (.fork 6 (.eff 10 (.eff 11 (.look 12 .done))) 10 (.eff 6 (.eff 11 (.look 12 .done)))) 10 (.eff 5 (.eff 6 (.eff 11 (.look 12 .done))))))))))))) (⟨_, kx_of (fun _ _ _ => rfl)⟩) (by kernel_rfl) (by kernel_rfl) (fun _ _ d _ _ h => by cases d <;> exact h) ?_
  simp only [Fk.ops, nth]
  repeat (first | ((with_reducible refine wpForkH_look ?_); go_big_quiet_step (fail); (try (with_reducible refine wpQuiet_nil ?_))) | (with_reducible refine wpForkH_eff ?_) | ((with_reducible refine effH_F ?_ ?_); (focus rfl); go_simp) | ((with_reducible refine effH_T ?_ ?_); (focus rfl); (try dsimp only); go_wp2_with (first | (go_at_call 11; (with_reducible refine (HS.out _).mono ?_); rintro e w2 ⟨s, rfl, hS, k2⟩; have hcur2 := Lib.hid (App.ofEx' hcur.out (ex_trans (by (try show Ex _ _); repeat (first | (with_reducible exact ex_refl _) | (with_reducible assumption) | (with_reducible refine ex_drewL ?_) | (with_reducible refine ex_appR ?_ _) | (with_reducible refine ex_wx ?_ _) | (with_reducible refine ex_drew ?_) | (with_reducible refine ex_alloc ?_ _))) k2)); clear hcur; have hcur := hcur2; clear hcur2; have K2 : Ex w w2 := ex_trans (by (try show Ex _ _); repeat (first | (with_reducible exact ex_refl _) | (with_reducible assumption) | (with_reducible refine ex_drewL ?_) | (with_reducible refine ex_appR ?_ _) | (with_reducible refine ex_wx ?_ _) | (with_reducible refine ex_drew ?_) | (with_reducible refine ex_alloc ?_ _))) k2; have k3 := ex_drewR k2) | (at_builtin; refine wpAppT _ _ rfl rfl (hO1.ex (by (try show Ex _ _); repeat (first | (with_reducible exact ex_refl _) | (with_reducible assumption) | (with_reducible refine ex_drewL ?_) | (with_reducible refine ex_appR ?_ _) | (with_reducible refine ex_wx ?_ _) | (with_reducible refine ex_drew ?_) | (with_reducible refine ex_alloc ?_ _)))) rfl rfl (sls_one (byteI ek) (by (try show Ex _ _); repeat (first | (with_reducible exact ex_refl _) | (with_reducible assumption) | (with_reducible refine ex_drewL ?_) | (with_reducible refine ex_appR ?_ _) | (with_reducible refine ex_wx ?_ _) | (with_reducible refine ex_drew ?_) | (with_reducible refine ex_alloc ?_ _))) (by first | rfl | omega) HB.out.symm).slt (by simp; omega) (Nat.le_trans hzW (App.ofEx' hcur.out (by (try show Ex _ _); repeat (first | (with_reducible exact ex_refl _) | (with_reducible assumption) | (with_reducible refine ex_drewL ?_) | (with_reducible refine ex_appR ?_ _) | (with_reducible refine ex_wx ?_ _) | (with_reducible refine ex_drew ?_) | (with_reducible refine ex_alloc ?_ _)))).size) (fun v2 w4 hO2 hA2 => ?_); have hcur2 := Lib.hid ((App.ofEx' hcur.out (by (try show Ex _ _); repeat (first | (with_reducible exact ex_refl _) | (with_reducible assumption) | (with_reducible refine ex_drewL ?_) | (with_reducible refine ex_appR ?_ _) | (with_reducible refine ex_wx ?_ _) | (with_reducible refine ex_drew ?_) | (with_reducible refine ex_alloc ?_ _)))).trans hA2); clear hcur; have hcur := hcur2; clear hcur2) | (at_builtin; refine wpAppT _ _ rfl rfl (hO1.ex (by (try show Ex _ _); repeat (first | (with_reducible exact ex_refl _) | (with_reducible assumption) | (with_reducible refine ex_drewL ?_) | (with_reducible refine ex_appR ?_ _) | (with_reducible refine ex_wx ?_ _) | (with_reducible refine ex_drew ?_) | (with_reducible refine ex_alloc ?_ _)))) rfl rfl (((sls_one (byteI ek) (by (try show Ex _ _); repeat (first | (with_reducible exact ex_refl _) | (with_reducible assumption) | (with_reducible refine ex_drewL ?_) | (with_reducible refine ex_appR ?_ _) | (with_reducible refine ex_wx ?_ _) | (with_reducible refine ex_drew ?_) | (with_reducible refine ex_alloc ?_ _))) (by first | rfl | omega) HB.out.symm).slt.app hA1 (fun g hg hv => by have h9 := hvs g hv; have h7 := ex_size K2; simp only [Value.ownBlock, Option.some.injEq] at hg; omega)).ex (by (try show Ex _ _); repeat (first | (with_reducible exact ex_refl _) | (with_reducible assumption) | (with_reducible refine ex_drewL ?_) | (with_reducible refine ex_appR ?_ _) | (with_reducible refine ex_wx ?_ _) | (with_reducible refine ex_drew ?_) | (with_reducible refine ex_alloc ?_ _)))) (by simp; omega) (Nat.le_trans hzW (App.ofEx' hcur.out (by (try show Ex _ _); repeat (first | (with_reducible exact ex_refl _) | (with_reducible assumption) | (with_reducible refine ex_drewL ?_) | (with_reducible refine ex_appR ?_ _) | (with_reducible refine ex_wx ?_ _) | (with_reducible refine ex_drew ?_) | (with_reducible refine ex_alloc ?_ _)))).size) (fun v2 w4 hO2 hA2 => ?_); have hcur2 := Lib.hid ((App.ofEx' hcur.out (by (try show Ex _ _); repeat (first | (with_reducible exact ex_refl _) | (with_reducible assumption) | (with_reducible refine ex_drewL ?_) | (with_reducible refine ex_appR ?_ _) | (with_reducible refine ex_wx ?_ _) | (with_reducible refine ex_drew ?_) | (with_reducible refine ex_alloc ?_ _)))).trans hA2); clear hcur; have hcur := hcur2; clear hcur2) | (at_builtin; refine wpAppT _ _ rfl rfl (HO.out.ex (by (try show Ex _ _); repeat (first | (with_reducible exact ex_refl _) | (with_reducible assumption) | (with_reducible refine ex_drewL ?_) | (with_reducible refine ex_appR ?_ _) | (with_reducible refine ex_wx ?_ _) | (with_reducible refine ex_drew ?_) | (with_reducible refine ex_alloc ?_ _)))) rfl rfl (hS.slt.ex (by (try show Ex _ _); repeat (first | (with_reducible exact ex_refl _) | (with_reducible assumption) | (with_reducible refine ex_drewL ?_) | (with_reducible refine ex_appR ?_ _) | (with_reducible refine ex_wx ?_ _) | (with_reducible refine ex_drew ?_) | (with_reducible refine ex_alloc ?_ _)))) (by omega) (Nat.le_trans hzW (App.ofEx' hcur.out (by (try show Ex _ _); repeat (first | (with_reducible exact ex_refl _) | (with_reducible assumption) | (with_reducible refine ex_drewL ?_) | (with_reducible refine ex_appR ?_ _) | (with_reducible refine ex_wx ?_ _) | (with_reducible refine ex_drew ?_) | (with_reducible refine ex_alloc ?_ _)))).size) (fun v1 w3 hO1 hA1 => ?_); have hcur2 := Lib.hid ((App.ofEx' hcur.out (by (try show Ex _ _); repeat (first | (with_reducible exact ex_refl _) | (with_reducible assumption) | (with_reducible refine ex_drewL ?_) | (with_reducible refine ex_appR ?_ _) | (with_reducible refine ex_wx ?_ _) | (with_reducible refine ex_drew ?_) | (with_reducible refine ex_alloc ?_ _)))).trans hA1); clear hcur; have hcur := hcur2; clear hcur2)); refine mixQH_mk (⟨_, kx_of (App.ofEx' hcur.out (by (try show Ex _ _); repeat (first | (with_reducible exact ex_refl _) | (with_reducible assumption) | (with_reducible refine ex_drewL ?_) | (with_reducible refine ex_appR ?_ _) | (with_reducible refine ex_wx ?_ _) | (with_reducible refine ex_drew ?_) | (with_reducible refine ex_alloc ?_ _)))).block⟩) ?_))
  all_goals (try (with_reducible refine wpForkH_fork ?_ ?_))
  all_goals repeat (first | ((with_reducible refine wpForkH_look ?_); go_big_quiet_step (fail); (try (with_reducible refine wpQuiet_nil ?_))) | (with_reducible refine wpForkH_eff ?_) | ((with_reducible refine effH_F ?_ ?_); (focus rfl); go_simp) | ((with_reducible refine effH_T ?_ ?_); (focus rfl); (try dsimp only); go_wp2_with (first | (go_at_call 11; (with_reducible refine (HS.out _).mono ?_); rintro e w2 ⟨s, rfl, hS, k2⟩; have hcur2 := Lib.hid (App.ofEx' hcur.out (ex_trans (by (try show Ex _ _); repeat (first | (with_reducible exact ex_refl _) | (with_reducible assumption) | (with_reducible refine ex_drewL ?_) | (with_reducible refine ex_appR ?_ _) | (with_reducible refine ex_wx ?_ _) | (with_reducible refine ex_drew ?_) | (with_reducible refine ex_alloc ?_ _))) k2)); clear hcur; have hcur := hcur2; clear hcur2; have K2 : Ex w w2 := ex_trans (by (try show Ex _ _); repeat (first | (with_reducible exact ex_refl _) | (with_reducible assumption) | (with_reducible refine ex_drewL ?_) | (with_reducible refine ex_appR ?_ _) | (with_reducible refine ex_wx ?_ _) | (with_reducible refine ex_drew ?_) | (with_reducible refine ex_alloc ?_ _))) k2; have k3 := ex_drewR k2) | (at_builtin; refine wpAppT _ _ rfl rfl (hO1.ex (by (try show Ex _ _); repeat (first | (with_reducible exact ex_refl _) | (with_reducible assumption) | (with_reducible refine ex_drewL ?_) | (with_reducible refine ex_appR ?_ _) | (with_reducible refine ex_wx ?_ _) | (with_reducible refine ex_drew ?_) | (with_reducible refine ex_alloc ?_ _)))) rfl rfl (sls_one (byteI ek) (by (try show Ex _ _); repeat (first | (with_reducible exact ex_refl _) | (with_reducible assumption) | (with_reducible refine ex_drewL ?_) | (with_reducible refine ex_appR ?_ _) | (with_reducible refine ex_wx ?_ _) | (with_reducible refine ex_drew ?_) | (with_reducible refine ex_alloc ?_ _))) (by first | rfl | omega) HB.out.symm).slt (by simp; omega) (Nat.le_trans hzW (App.ofEx' hcur.out (by (try show Ex _ _); repeat (first | (with_reducible exact ex_refl _) | (with_reducible assumption) | (with_reducible refine ex_drewL ?_) | (with_reducible refine ex_appR ?_ _) | (with_reducible refine ex_wx ?_ _) | (with_reducible refine ex_drew ?_) | (with_reducible refine ex_alloc ?_ _)))).size) (fun v2 w4 hO2 hA2 => ?_); have hcur2 := Lib.hid ((App.ofEx' hcur.out (by (try show Ex _ _); repeat (first | (with_reducible exact ex_refl _) | (with_reducible assumption) | (with_reducible refine ex_drewL ?_) | (with_reducible refine ex_appR ?_ _) | (with_reducible refine ex_wx ?_ _) | (with_reducible refine ex_drew ?_) | (with_reducible refine ex_alloc ?_ _)))).trans hA2); clear hcur; have hcur := hcur2; clear hcur2) | (at_builtin; refine wpAppT _ _ rfl rfl (hO1.ex (by (try show Ex _ _); repeat (first | (with_reducible exact ex_refl _) | (with_reducible assumption) | (with_reducible refine ex_drewL ?_) | (with_reducible refine ex_appR ?_ _) | (with_reducible refine ex_wx ?_ _) | (with_reducible refine ex_drew ?_) | (with_reducible refine ex_alloc ?_ _)))) rfl rfl (((sls_one (byteI ek) (by (try show Ex _ _); repeat (first | (with_reducible exact ex_refl _) | (with_reducible assumption) | (with_reducible refine ex_drewL ?_) | (with_reducible refine ex_appR ?_ _) | (with_reducible refine ex_wx ?_ _) | (with_reducible refine ex_drew ?_) | (with_reducible refine ex_alloc ?_ _))) (by first | rfl | omega) HB.out.symm).slt.app hA1 (fun g hg hv => by have h9 := hvs g hv; have h7 := ex_size K2; simp only [Value.ownBlock, Option.some.injEq] at hg; omega)).ex (by (try show Ex _ _); repeat (first | (with_reducible exact ex_refl _) | (with_reducible assumption) | (with_reducible refine ex_drewL ?_) | (with_reducible refine ex_appR ?_ _) | (with_reducible refine ex_wx ?_ _) | (with_reducible refine ex_drew ?_) | (with_reducible refine ex_alloc ?_ _)))) (by simp; omega) (Nat.le_trans hzW (App.ofEx' hcur.out (by (try show Ex _ _); repeat (first | (with_reducible exact ex_refl _) | (with_reducible assumption) | (with_reducible refine ex_drewL ?_) | (with_reducible refine ex_appR ?_ _) | (with_reducible refine ex_wx ?_ _) | (with_reducible refine ex_drew ?_) | (with_reducible refine ex_alloc ?_ _)))).size) (fun v2 w4 hO2 hA2 => ?_); have hcur2 := Lib.hid ((App.ofEx' hcur.out (by (try show Ex _ _); repeat (first | (with_reducible exact ex_refl _) | (with_reducible assumption) | (with_reducible refine ex_drewL ?_) | (with_reducible refine ex_appR ?_ _) | (with_reducible refine ex_wx ?_ _) | (with_reducible refine ex_drew ?_) | (with_reducible refine ex_alloc ?_ _)))).trans hA2); clear hcur; have hcur := hcur2; clear hcur2) | (at_builtin; refine wpAppT _ _ rfl rfl (HO.out.ex (by (try show Ex _ _); repeat (first | (with_reducible exact ex_refl _) | (with_reducible assumption) | (with_reducible refine ex_drewL ?_) | (with_reducible refine ex_appR ?_ _) | (with_reducible refine ex_wx ?_ _) | (with_reducible refine ex_drew ?_) | (with_reducible refine ex_alloc ?_ _)))) rfl rfl (hS.slt.ex (by (try show Ex _ _); repeat (first | (with_reducible exact ex_refl _) | (with_reducible assumption) | (with_reducible refine ex_drewL ?_) | (with_reducible refine ex_appR ?_ _) | (with_reducible refine ex_wx ?_ _) | (with_reducible refine ex_drew ?_) | (with_reducible refine ex_alloc ?_ _)))) (by omega) (Nat.le_trans hzW (App.ofEx' hcur.out (by (try show Ex _ _); repeat (first | (with_reducible exact ex_refl _) | (with_reducible assumption) | (with_reducible refine ex_drewL ?_) | (with_reducible refine ex_appR ?_ _) | (with_reducible refine ex_wx ?_ _) | (with_reducible refine ex_drew ?_) | (with_reducible refine ex_alloc ?_ _)))).size) (fun v1 w3 hO1 hA1 => ?_); have hcur2 := Lib.hid ((App.ofEx' hcur.out (by (try show Ex _ _); repeat (first | (with_reducible exact ex_refl _) | (with_reducible assumption) | (with_reducible refine ex_drewL ?_) | (with_reducible refine ex_appR ?_ _) | (with_reducible refine ex_wx ?_ _) | (with_reducible refine ex_drew ?_) | (with_reducible refine ex_alloc ?_ _)))).trans hA1); clear hcur; have hcur := hcur2; clear hcur2)); refine mixQH_mk (⟨_, kx_of (App.ofEx' hcur.out (by (try show Ex _ _); repeat (first | (with_reducible exact ex_refl _) | (with_reducible assumption) | (with_reducible refine ex_drewL ?_) | (with_reducible refine ex_appR ?_ _) | (with_reducible refine ex_wx ?_ _) | (with_reducible refine ex_drew ?_) | (with_reducible refine ex_alloc ?_ _)))).block⟩) ?_))
  all_goals (try (with_reducible refine wpForkH_fork ?_ ?_))
  all_goals repeat (first | ((with_reducible refine wpForkH_look ?_); go_big_quiet_step (fail); (try (with_reducible refine wpQuiet_nil ?_))) | (with_reducible refine wpForkH_eff ?_) | ((with_reducible refine effH_F ?_ ?_); (focus rfl); go_simp) | ((with_reducible refine effH_T ?_ ?_); (focus rfl); (try dsimp only); go_wp2_with (first | (go_at_call 11; (with_reducible refine (HS.out _).mono ?_); rintro e w2 ⟨s, rfl, hS, k2⟩; have hcur2 := Lib.hid (App.ofEx' hcur.out (ex_trans (by (try show Ex _ _); repeat (first | (with_reducible exact ex_refl _) | (with_reducible assumption) | (with_reducible refine ex_drewL ?_) | (with_reducible refine ex_appR ?_ _) | (with_reducible refine ex_wx ?_ _) | (with_reducible refine ex_drew ?_) | (with_reducible refine ex_alloc ?_ _))) k2)); clear hcur; have hcur := hcur2; clear hcur2; have K2 : Ex w w2 := ex_trans (by (try show Ex _ _); repeat (first | (with_reducible exact ex_refl _) | (with_reducible assumption) | (with_reducible refine ex_drewL ?_) | (with_reducible refine ex_appR ?_ _) | (with_reducible refine ex_wx ?_ _) | (with_reducible refine ex_drew ?_) | (with_reducible refine ex_alloc ?_ _))) k2; have k3 := ex_drewR k2) | (at_builtin; refine wpAppT _ _ rfl rfl (hO1.ex (by (try show Ex _ _); repeat (first | (with_reducible exact ex_refl _) | (with_reducible assumption) | (with_reducible refine ex_drewL ?_) | (with_reducible refine ex_appR ?_ _) | (with_reducible refine ex_wx ?_ _) | (with_reducible refine ex_drew ?_) | (with_reducible refine ex_alloc ?_ _)))) rfl rfl (sls_one (byteI ek) (by (try show Ex _ _); repeat (first | (with_reducible exact ex_refl _) | (with_reducible assumption) | (with_reducible refine ex_drewL ?_) | (with_reducible refine ex_appR ?_ _) | (with_reducible refine ex_wx ?_ _) | (with_reducible refine ex_drew ?_) | (with_reducible refine ex_alloc ?_ _))) (by first | rfl | omega) HB.out.symm).slt (by simp; omega) (Nat.le_trans hzW (App.ofEx' hcur.out (by (try show Ex _ _); repeat (first | (with_reducible exact ex_refl _) | (with_reducible assumption) | (with_reducible refine ex_drewL ?_) | (with_reducible refine ex_appR ?_ _) | (with_reducible refine ex_wx ?_ _) | (with_reducible refine ex_drew ?_) | (with_reducible refine ex_alloc ?_ _)))).size) (fun v2 w4 hO2 hA2 => ?_); have hcur2 := Lib.hid ((App.ofEx' hcur.out (by (try show Ex _ _); repeat (first | (with_reducible exact ex_refl _) | (with_reducible assumption) | (with_reducible refine ex_drewL ?_) | (with_reducible refine ex_appR ?_ _) | (with_reducible refine ex_wx ?_ _) | (with_reducible refine ex_drew ?_) | (with_reducible refine ex_alloc ?_ _)))).trans hA2); clear hcur; have hcur := hcur2; clear hcur2) | (at_builtin; refine wpAppT _ _ rfl rfl (hO1.ex (by (try show Ex _ _); repeat (first | (with_reducible exact ex_refl _) | (with_reducible assumption) | (with_reducible refine ex_drewL ?_) | (with_reducible refine ex_appR ?_ _) | (with_reducible refine ex_wx ?_ _) | (with_reducible refine ex_drew ?_) | (with_reducible refine ex_alloc ?_ _)))) rfl rfl (((sls_one (byteI ek) (by (try show Ex _ _); repeat (first | (with_reducible exact ex_refl _) | (with_reducible assumption) | (with_reducible refine ex_drewL ?_) | (with_reducible refine ex_appR ?_ _) | (with_reducible refine ex_wx ?_ _) | (with_reducible refine ex_drew ?_) | (with_reducible refine ex_alloc ?_ _))) (by first | rfl | omega) HB.out.symm).slt.app hA1 (fun g hg hv => by have h9 := hvs g hv; have h7 := ex_size K2; simp only [Value.ownBlock, Option.some.injEq] at hg; omega)).ex (by (try show Ex _ _); repeat (first | (with_reducible exact ex_refl _) | (with_reducible assumption) | (with_reducible refine ex_drewL ?_) | (with_reducible refine ex_appR ?_ _) | (with_reducible refine ex_wx ?_ _) | (with_reducible refine ex_drew ?_) | (with_reducible refine ex_alloc ?_ _)))) (by simp; omega) (Nat.le_trans hzW (App.ofEx' hcur.out (by (try show Ex _ _); repeat (first | (with_reducible exact ex_refl _) | (with_reducible assumption) | (with_reducible refine ex_drewL ?_) | (with_reducible refine ex_appR ?_ _) | (with_reducible refine ex_wx ?_ _) | (with_reducible refine ex_drew ?_) | (with_reducible refine ex_alloc ?_ _)))).size) (fun v2 w4 hO2 hA2 => ?_); have hcur2 := Lib.hid ((App.ofEx' hcur.out (by (try show Ex _ _); repeat (first | (with_reducible exact ex_refl _) | (with_reducible assumption) | (with_reducible refine ex_drewL ?_) | (with_reducible refine ex_appR ?_ _) | (with_reducible refine ex_wx ?_ _) | (with_reducible refine ex_drew ?_) | (with_reducible refine ex_alloc ?_ _)))).trans hA2); clear hcur; have hcur := hcur2; clear hcur2) | (at_builtin; refine wpAppT _ _ rfl rfl (HO.out.ex (by (try show Ex _ _); repeat (first | (with_reducible exact ex_refl _) | (with_reducible assumption) | (with_reducible refine ex_drewL ?_) | (with_reducible refine ex_appR ?_ _) | (with_reducible refine ex_wx ?_ _) | (with_reducible refine ex_drew ?_) | (with_reducible refine ex_alloc ?_ _)))) rfl rfl (hS.slt.ex (by (try show Ex _ _); repeat (first | (with_reducible exact ex_refl _) | (with_reducible assumption) | (with_reducible refine ex_drewL ?_) | (with_reducible refine ex_appR ?_ _) | (with_reducible refine ex_wx ?_ _) | (with_reducible refine ex_drew ?_) | (with_reducible refine ex_alloc ?_ _)))) (by omega) (Nat.le_trans hzW (App.ofEx' hcur.out (by (try show Ex _ _); repeat (first | (with_reducible exact ex_refl _) | (with_reducible assumption) | (with_reducible refine ex_drewL ?_) | (with_reducible refine ex_appR ?_ _) | (with_reducible refine ex_wx ?_ _) | (with_reducible refine ex_drew ?_) | (with_reducible refine ex_alloc ?_ _)))).size) (fun v1 w3 hO1 hA1 => ?_); have hcur2 := Lib.hid ((App.ofEx' hcur.out (by (try show Ex _ _); repeat (first | (with_reducible exact ex_refl _) | (with_reducible assumption) | (with_reducible refine ex_drewL ?_) | (with_reducible refine ex_appR ?_ _) | (with_reducible refine ex_wx ?_ _) | (with_reducible refine ex_drew ?_) | (with_reducible refine ex_alloc ?_ _)))).trans hA1); clear hcur; have hcur := hcur2; clear hcur2)); refine mixQH_mk (⟨_, kx_of (App.ofEx' hcur.out (by (try show Ex _ _); repeat (first | (with_reducible exact ex_refl _) | (with_reducible assumption) | (with_reducible refine ex_drewL ?_) | (with_reducible refine ex_appR ?_ _) | (with_reducible refine ex_wx ?_ _) | (with_reducible refine ex_drew ?_) | (with_reducible refine ex_alloc ?_ _)))).block⟩) ?_))
  all_goals (with_reducible refine wpForkH_nil ?_)
  all_goals
    have hq4 : w4.heap[w.heap.size]? = some (.cells #[L et, I ek, dv] 60 (0, 0)) := (hcur.out.block _ z1 hvq).trans hq0.out
    have hp4 : w4.heap[p]? = some (.cells #[L t] 25 (0, 0)) := (hcur.out.block p z2 hne).trans hp0.out
    obtain ⟨s0, _⟩ := block_cell (o := 0) hq4 rfl
    obtain ⟨s2, _⟩ := block_cell (o := 2) hq4 rfl
    obtain ⟨s3, sf3⟩ := block_cell (o := 0) hp4 rfl
    have hA4 : Ex A w4 := hcur.out.ex (ex_trans hA hk0) (HO.out.ex hk0)
    have hv2p : v2.ownBlock ≠ some p := by
      rcases hcur.out.own with e | ⟨g, e, hg⟩
      · rw [e]; exact hne
      · rw [e]; intro h9; have := Option.some.inj h9; omega
    have hp5 : (w4.setCell ⟨p, 0, none⟩ (L et)).heap[p]? = some (.cells #[L et] 25 (0, 0)) := setCell_block (L et) hp4
    have hO5 : OwnL (w4.setCell ⟨p, 0, none⟩ (L et)) A.heap.size v2 (l ++ shortL x.toNat ++ [byteI ek]) := own_kept hO2 (fun g hg => setCell_heap _ (fun e => hv2p (e ▸ hg)))
    have hA5 : Ex A (w4.setCell ⟨p, 0, none⟩ (L et)) := ex_set hA4 hpA (L et)
    have HRaw := Lib.hid (raw_any _ ed v2 dv _ hA5 hO5 HD.out (by simp; omega) (by omega))
    have hps4 : p < (w4.setCell ⟨p, 0, none⟩ (L et)).heap.size := (Array.getElem?_eq_some_iff.1 hp5).1
    have hne2 : p ≠ w.heap.size := by omega
    replace hO2 := Lib.hid hO2
    replace hO5 := Lib.hid hO5
    replace hA5 := Lib.hid hA5
    replace hp4 := Lib.hid hp4
    replace hp5 := Lib.hid hp5
    replace hq4 := Lib.hid hq4
    replace hps4 := Lib.hid hps4
    clear r0 r1 r2 r3 HS HB
    go_wp2_with (go_at_call 58; (with_reducible refine (HRaw.out).mono ?_); rintro e w6 ⟨v3, rfl, hO6, hA6⟩)
    go_ret
    refine ⟨v3, rfl, ?_, hA6.ex hA5.out hO5.out, (hA6.block p hps4.out hv2p).trans hp5.out, ?_⟩
    · have e : entL t (et, ek, ed) = shortL x.toNat ++ [byteI ek] ++ (shortL ed.length ++ ed) := by unfold entL; simp only [hx]; simp
      rw [e]
      simpa [List.append_assoc] using hO6
    · rcases hA6.own with e | ⟨g, e, hg⟩
      · rw [e]; exact hv2p
      · have := hps4.out
        rw [e]; intro h9; have := Option.some.inj h9; omega
end Go.Proofs.YtpcfkjeikhehaaaDoor
