import Derived.Test.YtpcfkjeikhehaaaDoorMFrH
import Derived.Test.YtpcfkjeikhehaaaDoorMSeqH

/- Bytes of parts: raw, lists of entries and of members. -/
set_option linter.unusedSimpArgs false
set_option linter.unusedVariables false
set_option maxRecDepth 20000
namespace Go.Proofs.YtpcfkjeikhehaaaDoor
open Go.RowKit
theorem ex_drewR {w u : World} (h : Ex w.drew u) : Ex w u := h
theorem App.ofEx' {w w' u : World} {v x : Value} (h : App w w' v x) (k : Ex w' u) : App w u v x := h.trans (App.ofEx k x)
theorem App.after {w w' u : World} {v x : Value} (k : Ex w w') (h : App w' u v x) : App w u v x := (App.ofEx k v).trans h
theorem raw_any {A : World} (l r : List UInt8) (v vx : Value) (w : World) (hA : Ex A w) (hown : OwnL w A.heap.size v l) (hr : SlT A vx r) (hl : l.length ≤ 1000000) (hrl : r.length ≤ 1000000) :
    Calls Tryd.prog 58 #[v, vx] w fun e w' => ∃ v', e = .returned v' ∧ OwnL w' A.heap.size v' (l ++ (shortL r.length ++ r)) ∧ App w w' v v' := by
  have hz := ex_size hA
  have HR := Lib.hid hr
  have HS := Lib.hid (fun w' => short_any r.length w' (by omega))
  have hsl := shortL_len (x := r.length) (by omega)
  have HO := Lib.hid hown
  obtain ⟨a, c, rfl, hc, hcm, ha, hx⟩ := hr.out
  have w1 : IntKind.u64.wrap (r.length : Int) = r.length := wrap_u64_nat _ (by omega)
  clear hx hr hown ha
  generalize hn : r.length = n at *
  go_enter Tryd.func58, Tryd.ntmps58
  go_wp2_with (first | (go_at_call 11; (with_reducible refine (HS.out _).mono ?_); rintro e w2 ⟨s, rfl, hS, k2⟩) | (at_builtin; refine wpAppT _ _ rfl rfl hO1 rfl rfl (HR.out.ex (hA1.ex (ex_trans hA k2) (HO.out.ex k2))) (by simp; omega) (Nat.le_trans hz (Nat.le_trans (ex_size k2) hA1.size)) (fun v2 w4 hO2 hA2 => ?_)) | (at_builtin; refine wpAppT _ _ rfl rfl (HO.out.ex k2) rfl rfl hS.slt (by omega) (Nat.le_trans hz (ex_size k2)) (fun v1 w3 hO1 hA1 => ?_)))
  go_ret
  refine ⟨_, rfl, ?_, App.after k2 (hA1.trans hA2)⟩
  rw [List.append_assoc] at hO2
  exact hO2
theorem SlT.app {w w' : World} {v v' s : Value} {r : List UInt8} (h : SlT w s r) (k : App w w' v v') (hb : ∀ g, s.ownBlock = some g → v.ownBlock ≠ some g) : SlT w' s r := by
  obtain ⟨a, c, rfl, h1, h2, h3, h4⟩ := h.out
  refine ⟨a, c, rfl, h1, h2, h3, ?_⟩
  rcases h4.out with h0 | ⟨g, off, rfl, hg, hc⟩
  · exact ⟨Or.inl h0⟩
  · refine SlB.mk' (Nat.lt_of_lt_of_le hg k.size) fun j hj => ?_
    rw [← hc j hj]
    simp only [World.cell?, k.block g hg (hb g rfl)]
theorem own_kept {w w' : World} {Z : Nat} {t : TypeId} {s : Nat} {v : Value} {n : Nat} {xs : List Value} (h : w.ownsRow Z t s v n xs) (hg : ∀ g, v.ownBlock = some g → w'.heap[g]? = w.heap[g]?) : w'.ownsRow Z t s v n xs := by
  refine ⟨h.1, ?_⟩
  rcases h.2 with h2 | ⟨g, cap, cur, rfl, h3, h4, h5⟩
  · exact .inl h2
  · exact .inr ⟨g, cap, cur, rfl, h3, (hg g rfl).trans h4, h5⟩
theorem setCell_heap {w : World} {b o : Nat} (v : Value) {k : Nat} (h : k ≠ b) : (w.setCell ⟨b, o, none⟩ v).heap[k]? = w.heap[k]? := by
  simp only [World.setCell, Array.getElem?_modify]
  rw [if_neg (by simpa using Ne.symm h)]
theorem setCell_block {w : World} {b o : Nat} {cs : Array Value} {t : TypeId} {fr : Nat × Nat} (v : Value) (h : w.heap[b]? = some (.cells cs t fr)) : (w.setCell ⟨b, o, none⟩ v).heap[b]? = some (.cells (cs.setIfInBounds o v) t fr) := by
  simp [World.setCell, Array.getElem?_modify, h]
theorem block_cell {w : World} {b o : Nat} {cs : Array Value} {t : TypeId} {v : Value} (h : w.heap[b]? = some (.cells cs t (0, 0))) (hv : cs[o]? = some v) : w.cell? ⟨b, o, none⟩ = some v ∧ w.frozen? ⟨b, o, none⟩ = false := by
  refine ⟨?_, ?_⟩
  · rw [cell_of_row w b o cs t (0, 0) h]; exact hv
  · simp [World.frozen?, h]
theorem ex_of_alloc (w : World) (ob : Obj) (b : Nat) (h : b < w.heap.size) : (w.alloc ob).heap[b]? = w.heap[b]? := by
  show (w.heap.push ob)[b]? = _
  rw [Array.getElem?_push, if_neg (by omega)]
theorem bn_byteI (n : Int) : bn (byteI n) = n % 256 := by
  unfold bn byteI
  rw [UInt8.toNat_ofNat_of_lt' (by show _ < 256; omega)]
  omega
set_option maxHeartbeats 2000000 in
theorem plain1_any {A : World} (l : List UInt8) (t : UInt64) (e : En) (v dv : Value) (p : Nat) (w : World) (hA : Ex A w) (hown : OwnL w A.heap.size v l) (hd : SlT A dv e.2.2)
    (hp : w.heap[p]? = some (.cells #[L t] 25 (0, 0))) (hpA : A.heap.size ≤ p) (hne : v.ownBlock ≠ some p) (hl : l.length ≤ 900000) (hdl : e.2.2.length ≤ 90000) :
    Calls Tryd.prog 57 #[v, .agg #[L e.1, I e.2.1, dv], .pointer (some ⟨p, 0, none⟩)] w fun e' w' => ∃ v', e' = .returned v' ∧ OwnL w' A.heap.size v' (l ++ entL t e) ∧ Ex A w' ∧ w'.heap[p]? = some (.cells #[L e.1] 25 (0, 0)) ∧ v'.ownBlock ≠ some p := by
  obtain ⟨et, ek, ed⟩ := e
  simp only at hd hdl ⊢
  have hz := ex_size hA
  have hps : p < w.heap.size := (Array.getElem?_eq_some_iff.1 hp).1
  have hvs : ∀ g, v.ownBlock = some g → g < w.heap.size := fun g hg => (World.ownsRow.lt hown g hg).2
  have hvq : v.ownBlock ≠ some w.heap.size := fun h => by have := hvs _ h; omega
  obtain ⟨c0, f0⟩ := block_cell (o := 0) hp rfl
  obtain ⟨x, hx⟩ : ∃ x, et - t = x := ⟨_, rfl⟩
  have hsub : IntKind.u64.wrap (ln et - ln t) = (x.toNat : Int) := by
    rw [← hx, IntKind.wrap_u64]; unfold ln
    rw [UInt64.toNat_sub]
    have := et.toNat_lt
    have := t.toNat_lt
    simp only [Nat.reducePow, Int.natCast_emod, Int.natCast_add]
    omega
  have HS := Lib.hid (fun w' => short_any x.toNat w' (u64_toNat x))
  have hsl := shortL_len (u64_toNat x)
  have HB := Lib.hid (bn_byteI ek)
  have HO := Lib.hid hown
  have HD := Lib.hid hd
  have HP := Lib.hid hp
  clear hown hd hp
  have hq0 : (w.alloc (.cells #[L et, I ek, dv] 60)).heap[w.heap.size]? = some (.cells #[L et, I ek, dv] 60 (0, 0)) := heap_alloc_new w _
  have hp0 : (w.alloc (.cells #[L et, I ek, dv] 60)).heap[p]? = some (.cells #[L t] 25 (0, 0)) := (ex_of_alloc w _ p hps).trans HP.out
  have hs0 : (w.alloc (.cells #[L et, I ek, dv] 60)).heap.size = w.heap.size + 1 := by simp [go_sem]
  have hk0 : Ex w (w.alloc (.cells #[L et, I ek, dv] 60)) := ex_alloc (ex_refl _) _
  replace hq0 := Lib.hid hq0
  replace hp0 := Lib.hid hp0
  go_enter Tryd.func57, Tryd.ntmps57
  go_wp2
  generalize w.alloc (.cells #[L et, I ek, dv] 60) = W0 at *
  have hcur : Hid (App W0 W0 v v) := Lib.hid (App.ofEx (ex_refl _) v)
  obtain ⟨r0, _⟩ := block_cell (o := 0) hq0.out rfl
  obtain ⟨r1, _⟩ := block_cell (o := 1) hq0.out rfl
  obtain ⟨r2, _⟩ := block_cell (o := 2) hq0.out rfl
  obtain ⟨r3, _⟩ := block_cell (o := 0) hp0.out rfl
  have z1 : w.heap.size < W0.heap.size := by omega
  have z2 : p < W0.heap.size := by omega
  have hzW : A.heap.size ≤ W0.heap.size := by omega
  clear c0 f0 HP
  have K := hk0
  refine wp_region_forkH (fun w' => ∃ X, w' = kx W0 v.ownBlock X) (.look 0 (.look 1 (.look 2 (.look 3 (.look 4 (.look 7 (.look 8 (.look 9 (.fork 5 (.fork 6 (.eff 10 (.eff 11 (.look 12 .done))) 10 (.eff 6 (.eff 11 (.look 12 .done)))) 10 (.eff 5 (.eff 6 (.eff 11 (.look 12 .done))))))))))))) (⟨_, kx_of (fun _ _ _ => rfl)⟩) (by kernel_rfl) (by kernel_rfl) (fun _ _ d _ _ h => by cases d <;> exact h) ?_
  simp only [Fk.ops, nth]
  repeat (first | ((with_reducible refine wpForkH_look ?_); go_big_quiet_step (fail); (try (with_reducible refine wpQuiet_nil ?_))) | (with_reducible refine wpForkH_eff ?_) | ((with_reducible refine effH_F ?_ ?_); (focus rfl); go_simp) | ((with_reducible refine effH_T ?_ ?_); (focus rfl); (try dsimp only); go_wp2_with (first | (go_at_call 11; (with_reducible refine (HS.out _).mono ?_); rintro e w2 ⟨s, rfl, hS, k2⟩; have hcur2 := Lib.hid (App.ofEx' hcur.out (ex_trans (by (try show Ex _ _); repeat (first | (with_reducible exact ex_refl _) | (with_reducible assumption) | (with_reducible refine ex_drewL ?_) | (with_reducible refine ex_appR ?_ _) | (with_reducible refine ex_wx ?_ _) | (with_reducible refine ex_drew ?_) | (with_reducible refine ex_alloc ?_ _))) k2)); clear hcur; have hcur := hcur2; clear hcur2; have K2 : Ex w w2 := ex_trans (by (try show Ex _ _); repeat (first | (with_reducible exact ex_refl _) | (with_reducible assumption) | (with_reducible refine ex_drewL ?_) | (with_reducible refine ex_appR ?_ _) | (with_reducible refine ex_wx ?_ _) | (with_reducible refine ex_drew ?_) | (with_reducible refine ex_alloc ?_ _))) k2; have k3 := ex_drewR k2) | (at_builtin; refine wpAppT _ _ rfl rfl (hO1.ex (by (try show Ex _ _); repeat (first | (with_reducible exact ex_refl _) | (with_reducible assumption) | (with_reducible refine ex_drewL ?_) | (with_reducible refine ex_appR ?_ _) | (with_reducible refine ex_wx ?_ _) | (with_reducible refine ex_drew ?_) | (with_reducible refine ex_alloc ?_ _)))) rfl rfl (sls_one (byteI ek) (by (try show Ex _ _); repeat (first | (with_reducible exact ex_refl _) | (with_reducible assumption) | (with_reducible refine ex_drewL ?_) | (with_reducible refine ex_appR ?_ _) | (with_reducible refine ex_wx ?_ _) | (with_reducible refine ex_drew ?_) | (with_reducible refine ex_alloc ?_ _))) (by first | rfl | omega) HB.out.symm).slt (by simp; omega) (Nat.le_trans hzW (App.ofEx' hcur.out (by (try show Ex _ _); repeat (first | (with_reducible exact ex_refl _) | (with_reducible assumption) | (with_reducible refine ex_drewL ?_) | (with_reducible refine ex_appR ?_ _) | (with_reducible refine ex_wx ?_ _) | (with_reducible refine ex_drew ?_) | (with_reducible refine ex_alloc ?_ _)))).size) (fun v2 w4 hO2 hA2 => ?_); have hcur2 := Lib.hid ((App.ofEx' hcur.out (by (try show Ex _ _); repeat (first | (with_reducible exact ex_refl _) | (with_reducible assumption) | (with_reducible refine ex_drewL ?_) | (with_reducible refine ex_appR ?_ _) | (with_reducible refine ex_wx ?_ _) | (with_reducible refine ex_drew ?_) | (with_reducible refine ex_alloc ?_ _)))).trans hA2); clear hcur; have hcur := hcur2; clear hcur2) | (at_builtin; refine wpAppT _ _ rfl rfl (hO1.ex (by (try show Ex _ _); repeat (first | (with_reducible exact ex_refl _) | (with_reducible assumption) | (with_reducible refine ex_drewL ?_) | (with_reducible refine ex_appR ?_ _) | (with_reducible refine ex_wx ?_ _) | (with_reducible refine ex_drew ?_) | (with_reducible refine ex_alloc ?_ _)))) rfl rfl (((sls_one (byteI ek) (by (try show Ex _ _); repeat (first | (with_reducible exact ex_refl _) | (with_reducible assumption) | (with_reducible refine ex_drewL ?_) | (with_reducible refine ex_appR ?_ _) | (with_reducible refine ex_wx ?_ _) | (with_reducible refine ex_drew ?_) | (with_reducible refine ex_alloc ?_ _))) (by first | rfl | omega) HB.out.symm).slt.app hA1 (fun g hg hv => by have h9 := hvs g hv; have h7 := ex_size K2; simp only [Value.ownBlock, Option.some.injEq] at hg; omega)).ex (by (try show Ex _ _); repeat (first | (with_reducible exact ex_refl _) | (with_reducible assumption) | (with_reducible refine ex_drewL ?_) | (with_reducible refine ex_appR ?_ _) | (with_reducible refine ex_wx ?_ _) | (with_reducible refine ex_drew ?_) | (with_reducible refine ex_alloc ?_ _)))) (by simp; omega) (Nat.le_trans hzW (App.ofEx' hcur.out (by (try show Ex _ _); repeat (first | (with_reducible exact ex_refl _) | (with_reducible assumption) | (with_reducible refine ex_drewL ?_) | (with_reducible refine ex_appR ?_ _) | (with_reducible refine ex_wx ?_ _) | (with_reducible refine ex_drew ?_) | (with_reducible refine ex_alloc ?_ _)))).size) (fun v2 w4 hO2 hA2 => ?_); have hcur2 := Lib.hid ((App.ofEx' hcur.out (by (try show Ex _ _); repeat (first | (with_reducible exact ex_refl _) | (with_reducible assumption) | (with_reducible refine ex_drewL ?_) | (with_reducible refine ex_appR ?_ _) | (with_reducible refine ex_wx ?_ _) | (with_reducible refine ex_drew ?_) | (with_reducible refine ex_alloc ?_ _)))).trans hA2); clear hcur; have hcur := hcur2; clear hcur2) | (at_builtin; refine wpAppT _ _ rfl rfl (HO.out.ex (by (try show Ex _ _); repeat (first | (with_reducible exact ex_refl _) | (with_reducible assumption) | (with_reducible refine ex_drewL ?_) | (with_reducible refine ex_appR ?_ _) | (with_reducible refine ex_wx ?_ _) | (with_reducible refine ex_drew ?_) | (with_reducible refine ex_alloc ?_ _)))) rfl rfl (hS.slt.ex (by (try show Ex _ _); repeat (first | (with_reducible exact ex_refl _) | (with_reducible assumption) | (with_reducible refine ex_drewL ?_) | (with_reducible refine ex_appR ?_ _) | (with_reducible refine ex_wx ?_ _) | (with_reducible refine ex_drew ?_) | (with_reducible refine ex_alloc ?_ _)))) (by omega) (Nat.le_trans hzW (App.ofEx' hcur.out (by (try show Ex _ _); repeat (first | (with_reducible exact ex_refl _) | (with_reducible assumption) | (with_reducible refine ex_drewL ?_) | (with_reducible refine ex_appR ?_ _) | (with_reducible refine ex_wx ?_ _) | (with_reducible refine ex_drew ?_) | (with_reducible refine ex_alloc ?_ _)))).size) (fun v1 w3 hO1 hA1 => ?_); have hcur2 := Lib.hid ((App.ofEx' hcur.out (by (try show Ex _ _); repeat (first | (with_reducible exact ex_refl _) | (with_reducible assumption) | (with_reducible refine ex_drewL ?_) | (with_reducible refine ex_appR ?_ _) | (with_reducible refine ex_wx ?_ _) | (with_reducible refine ex_drew ?_) | (with_reducible refine ex_alloc ?_ _)))).trans hA1); clear hcur; have hcur := hcur2; clear hcur2)); refine mixQH_mk (⟨_, kx_of (App.ofEx' hcur.out (by (try show Ex _ _); repeat (first | (with_reducible exact ex_refl _) | (with_reducible assumption) | (with_reducible refine ex_drewL ?_) | (with_reducible refine ex_appR ?_ _) | (with_reducible refine ex_wx ?_ _) | (with_reducible refine ex_drew ?_) | (with_reducible refine ex_alloc ?_ _)))).block⟩) ?_))
  all_goals (try (with_reducible refine wpForkH_fork ?_ ?_))
  all_goals repeat (first | ((with_reducible refine wpForkH_look ?_); go_big_quiet_step (fail); (try (with_reducible refine wpQuiet_nil ?_))) | (with_reducible refine wpForkH_eff ?_) | ((with_reducible refine effH_F ?_ ?_); (focus rfl); go_simp) | ((with_reducible refine effH_T ?_ ?_); (focus rfl); (try dsimp only); go_wp2_with (first | (go_at_call 11; (with_reducible refine (HS.out _).mono ?_); rintro e w2 ⟨s, rfl, hS, k2⟩; have hcur2 := Lib.hid (App.ofEx' hcur.out (ex_trans (by (try show Ex _ _); repeat (first | (with_reducible exact ex_refl _) | (with_reducible assumption) | (with_reducible refine ex_drewL ?_) | (with_reducible refine ex_appR ?_ _) | (with_reducible refine ex_wx ?_ _) | (with_reducible refine ex_drew ?_) | (with_reducible refine ex_alloc ?_ _))) k2)); clear hcur; have hcur := hcur2; clear hcur2; have K2 : Ex w w2 := ex_trans (by (try show Ex _ _); repeat (first | (with_reducible exact ex_refl _) | (with_reducible assumption) | (with_reducible refine ex_drewL ?_) | (with_reducible refine ex_appR ?_ _) | (with_reducible refine ex_wx ?_ _) | (with_reducible refine ex_drew ?_) | (with_reducible refine ex_alloc ?_ _))) k2; have k3 := ex_drewR k2) | (at_builtin; refine wpAppT _ _ rfl rfl (hO1.ex (by (try show Ex _ _); repeat (first | (with_reducible exact ex_refl _) | (with_reducible assumption) | (with_reducible refine ex_drewL ?_) | (with_reducible refine ex_appR ?_ _) | (with_reducible refine ex_wx ?_ _) | (with_reducible refine ex_drew ?_) | (with_reducible refine ex_alloc ?_ _)))) rfl rfl (sls_one (byteI ek) (by (try show Ex _ _); repeat (first | (with_reducible exact ex_refl _) | (with_reducible assumption) | (with_reducible refine ex_drewL ?_) | (with_reducible refine ex_appR ?_ _) | (with_reducible refine ex_wx ?_ _) | (with_reducible refine ex_drew ?_) | (with_reducible refine ex_alloc ?_ _))) (by first | rfl | omega) HB.out.symm).slt (by simp; omega) (Nat.le_trans hzW (App.ofEx' hcur.out (by (try show Ex _ _); repeat (first | (with_reducible exact ex_refl _) | (with_reducible assumption) | (with_reducible refine ex_drewL ?_) | (with_reducible refine ex_appR ?_ _) | (with_reducible refine ex_wx ?_ _) | (with_reducible refine ex_drew ?_) | (with_reducible refine ex_alloc ?_ _)))).size) (fun v2 w4 hO2 hA2 => ?_); have hcur2 := Lib.hid ((App.ofEx' hcur.out (by (try show Ex _ _); repeat (first | (with_reducible exact ex_refl _) | (with_reducible assumption) | (with_reducible refine ex_drewL ?_) | (with_reducible refine ex_appR ?_ _) | (with_reducible refine ex_wx ?_ _) | (with_reducible refine ex_drew ?_) | (with_reducible refine ex_alloc ?_ _)))).trans hA2); clear hcur; have hcur := hcur2; clear hcur2) | (at_builtin; refine wpAppT _ _ rfl rfl (hO1.ex (by (try show Ex _ _); repeat (first | (with_reducible exact ex_refl _) | (with_reducible assumption) | (with_reducible refine ex_drewL ?_) | (with_reducible refine ex_appR ?_ _) | (with_reducible refine ex_wx ?_ _) | (with_reducible refine ex_drew ?_) | (with_reducible refine ex_alloc ?_ _)))) rfl rfl (((sls_one (byteI ek) (by (try show Ex _ _); repeat (first | (with_reducible exact ex_refl _) | (with_reducible assumption) | (with_reducible refine ex_drewL ?_) | (with_reducible refine ex_appR ?_ _) | (with_reducible refine ex_wx ?_ _) | (with_reducible refine ex_drew ?_) | (with_reducible refine ex_alloc ?_ _))) (by first | rfl | omega) HB.out.symm).slt.app hA1 (fun g hg hv => by have h9 := hvs g hv; have h7 := ex_size K2; simp only [Value.ownBlock, Option.some.injEq] at hg; omega)).ex (by (try show Ex _ _); repeat (first | (with_reducible exact ex_refl _) | (with_reducible assumption) | (with_reducible refine ex_drewL ?_) | (with_reducible refine ex_appR ?_ _) | (with_reducible refine ex_wx ?_ _) | (with_reducible refine ex_drew ?_) | (with_reducible refine ex_alloc ?_ _)))) (by simp; omega) (Nat.le_trans hzW (App.ofEx' hcur.out (by (try show Ex _ _); repeat (first | (with_reducible exact ex_refl _) | (with_reducible assumption) | (with_reducible refine ex_drewL ?_) | (with_reducible refine ex_appR ?_ _) | (with_reducible refine ex_wx ?_ _) | (with_reducible refine ex_drew ?_) | (with_reducible refine ex_alloc ?_ _)))).size) (fun v2 w4 hO2 hA2 => ?_); have hcur2 := Lib.hid ((App.ofEx' hcur.out (by (try show Ex _ _); repeat (first | (with_reducible exact ex_refl _) | (with_reducible assumption) | (with_reducible refine ex_drewL ?_) | (with_reducible refine ex_appR ?_ _) | (with_reducible refine ex_wx ?_ _) | (with_reducible refine ex_drew ?_) | (with_reducible refine ex_alloc ?_ _)))).trans hA2); clear hcur; have hcur := hcur2; clear hcur2) | (at_builtin; refine wpAppT _ _ rfl rfl (HO.out.ex (by (try show Ex _ _); repeat (first | (with_reducible exact ex_refl _) | (with_reducible assumption) | (with_reducible refine ex_drewL ?_) | (with_reducible refine ex_appR ?_ _) | (with_reducible refine ex_wx ?_ _) | (with_reducible refine ex_drew ?_) | (with_reducible refine ex_alloc ?_ _)))) rfl rfl (hS.slt.ex (by (try show Ex _ _); repeat (first | (with_reducible exact ex_refl _) | (with_reducible assumption) | (with_reducible refine ex_drewL ?_) | (with_reducible refine ex_appR ?_ _) | (with_reducible refine ex_wx ?_ _) | (with_reducible refine ex_drew ?_) | (with_reducible refine ex_alloc ?_ _)))) (by omega) (Nat.le_trans hzW (App.ofEx' hcur.out (by (try show Ex _ _); repeat (first | (with_reducible exact ex_refl _) | (with_reducible assumption) | (with_reducible refine ex_drewL ?_) | (with_reducible refine ex_appR ?_ _) | (with_reducible refine ex_wx ?_ _) | (with_reducible refine ex_drew ?_) | (with_reducible refine ex_alloc ?_ _)))).size) (fun v1 w3 hO1 hA1 => ?_); have hcur2 := Lib.hid ((App.ofEx' hcur.out (by (try show Ex _ _); repeat (first | (with_reducible exact ex_refl _) | (with_reducible assumption) | (with_reducible refine ex_drewL ?_) | (with_reducible refine ex_appR ?_ _) | (with_reducible refine ex_wx ?_ _) | (with_reducible refine ex_drew ?_) | (with_reducible refine ex_alloc ?_ _)))).trans hA1); clear hcur; have hcur := hcur2; clear hcur2)); refine mixQH_mk (⟨_, kx_of (App.ofEx' hcur.out (by (try show Ex _ _); repeat (first | (with_reducible exact ex_refl _) | (with_reducible assumption) | (with_reducible refine ex_drewL ?_) | (with_reducible refine ex_appR ?_ _) | (with_reducible refine ex_wx ?_ _) | (with_reducible refine ex_drew ?_) | (with_reducible refine ex_alloc ?_ _)))).block⟩) ?_))
  all_goals (try (with_reducible refine wpForkH_fork ?_ ?_))
  all_goals repeat (first | ((with_reducible refine wpForkH_look ?_); go_big_quiet_step (fail); (try (with_reducible refine wpQuiet_nil ?_))) | (with_reducible refine wpForkH_eff ?_) | ((with_reducible refine effH_F ?_ ?_); (focus rfl); go_simp) | ((with_reducible refine effH_T ?_ ?_); (focus rfl); (try dsimp only); go_wp2_with (first | (go_at_call 11; (with_reducible refine (HS.out _).mono ?_); rintro e w2 ⟨s, rfl, hS, k2⟩; have hcur2 := Lib.hid (App.ofEx' hcur.out (ex_trans (by (try show Ex _ _); repeat (first | (with_reducible exact ex_refl _) | (with_reducible assumption) | (with_reducible refine ex_drewL ?_) | (with_reducible refine ex_appR ?_ _) | (with_reducible refine ex_wx ?_ _) | (with_reducible refine ex_drew ?_) | (with_reducible refine ex_alloc ?_ _))) k2)); clear hcur; have hcur := hcur2; clear hcur2; have K2 : Ex w w2 := ex_trans (by (try show Ex _ _); repeat (first | (with_reducible exact ex_refl _) | (with_reducible assumption) | (with_reducible refine ex_drewL ?_) | (with_reducible refine ex_appR ?_ _) | (with_reducible refine ex_wx ?_ _) | (with_reducible refine ex_drew ?_) | (with_reducible refine ex_alloc ?_ _))) k2; have k3 := ex_drewR k2) | (at_builtin; refine wpAppT _ _ rfl rfl (hO1.ex (by (try show Ex _ _); repeat (first | (with_reducible exact ex_refl _) | (with_reducible assumption) | (with_reducible refine ex_drewL ?_) | (with_reducible refine ex_appR ?_ _) | (with_reducible refine ex_wx ?_ _) | (with_reducible refine ex_drew ?_) | (with_reducible refine ex_alloc ?_ _)))) rfl rfl (sls_one (byteI ek) (by (try show Ex _ _); repeat (first | (with_reducible exact ex_refl _) | (with_reducible assumption) | (with_reducible refine ex_drewL ?_) | (with_reducible refine ex_appR ?_ _) | (with_reducible refine ex_wx ?_ _) | (with_reducible refine ex_drew ?_) | (with_reducible refine ex_alloc ?_ _))) (by first | rfl | omega) HB.out.symm).slt (by simp; omega) (Nat.le_trans hzW (App.ofEx' hcur.out (by (try show Ex _ _); repeat (first | (with_reducible exact ex_refl _) | (with_reducible assumption) | (with_reducible refine ex_drewL ?_) | (with_reducible refine ex_appR ?_ _) | (with_reducible refine ex_wx ?_ _) | (with_reducible refine ex_drew ?_) | (with_reducible refine ex_alloc ?_ _)))).size) (fun v2 w4 hO2 hA2 => ?_); have hcur2 := Lib.hid ((App.ofEx' hcur.out (by (try show Ex _ _); repeat (first | (with_reducible exact ex_refl _) | (with_reducible assumption) | (with_reducible refine ex_drewL ?_) | (with_reducible refine ex_appR ?_ _) | (with_reducible refine ex_wx ?_ _) | (with_reducible refine ex_drew ?_) | (with_reducible refine ex_alloc ?_ _)))).trans hA2); clear hcur; have hcur := hcur2; clear hcur2) | (at_builtin; refine wpAppT _ _ rfl rfl (hO1.ex (by (try show Ex _ _); repeat (first | (with_reducible exact ex_refl _) | (with_reducible assumption) | (with_reducible refine ex_drewL ?_) | (with_reducible refine ex_appR ?_ _) | (with_reducible refine ex_wx ?_ _) | (with_reducible refine ex_drew ?_) | (with_reducible refine ex_alloc ?_ _)))) rfl rfl (((sls_one (byteI ek) (by (try show Ex _ _); repeat (first | (with_reducible exact ex_refl _) | (with_reducible assumption) | (with_reducible refine ex_drewL ?_) | (with_reducible refine ex_appR ?_ _) | (with_reducible refine ex_wx ?_ _) | (with_reducible refine ex_drew ?_) | (with_reducible refine ex_alloc ?_ _))) (by first | rfl | omega) HB.out.symm).slt.app hA1 (fun g hg hv => by have h9 := hvs g hv; have h7 := ex_size K2; simp only [Value.ownBlock, Option.some.injEq] at hg; omega)).ex (by (try show Ex _ _); repeat (first | (with_reducible exact ex_refl _) | (with_reducible assumption) | (with_reducible refine ex_drewL ?_) | (with_reducible refine ex_appR ?_ _) | (with_reducible refine ex_wx ?_ _) | (with_reducible refine ex_drew ?_) | (with_reducible refine ex_alloc ?_ _)))) (by simp; omega) (Nat.le_trans hzW (App.ofEx' hcur.out (by (try show Ex _ _); repeat (first | (with_reducible exact ex_refl _) | (with_reducible assumption) | (with_reducible refine ex_drewL ?_) | (with_reducible refine ex_appR ?_ _) | (with_reducible refine ex_wx ?_ _) | (with_reducible refine ex_drew ?_) | (with_reducible refine ex_alloc ?_ _)))).size) (fun v2 w4 hO2 hA2 => ?_); have hcur2 := Lib.hid ((App.ofEx' hcur.out (by (try show Ex _ _); repeat (first | (with_reducible exact ex_refl _) | (with_reducible assumption) | (with_reducible refine ex_drewL ?_) | (with_reducible refine ex_appR ?_ _) | (with_reducible refine ex_wx ?_ _) | (with_reducible refine ex_drew ?_) | (with_reducible refine ex_alloc ?_ _)))).trans hA2); clear hcur; have hcur := hcur2; clear hcur2) | (at_builtin; refine wpAppT _ _ rfl rfl (HO.out.ex (by (try show Ex _ _); repeat (first | (with_reducible exact ex_refl _) | (with_reducible assumption) | (with_reducible refine ex_drewL ?_) | (with_reducible refine ex_appR ?_ _) | (with_reducible refine ex_wx ?_ _) | (with_reducible refine ex_drew ?_) | (with_reducible refine ex_alloc ?_ _)))) rfl rfl (hS.slt.ex (by (try show Ex _ _); repeat (first | (with_reducible exact ex_refl _) | (with_reducible assumption) | (with_reducible refine ex_drewL ?_) | (with_reducible refine ex_appR ?_ _) | (with_reducible refine ex_wx ?_ _) | (with_reducible refine ex_drew ?_) | (with_reducible refine ex_alloc ?_ _)))) (by omega) (Nat.le_trans hzW (App.ofEx' hcur.out (by (try show Ex _ _); repeat (first | (with_reducible exact ex_refl _) | (with_reducible assumption) | (with_reducible refine ex_drewL ?_) | (with_reducible refine ex_appR ?_ _) | (with_reducible refine ex_wx ?_ _) | (with_reducible refine ex_drew ?_) | (with_reducible refine ex_alloc ?_ _)))).size) (fun v1 w3 hO1 hA1 => ?_); have hcur2 := Lib.hid ((App.ofEx' hcur.out (by (try show Ex _ _); repeat (first | (with_reducible exact ex_refl _) | (with_reducible assumption) | (with_reducible refine ex_drewL ?_) | (with_reducible refine ex_appR ?_ _) | (with_reducible refine ex_wx ?_ _) | (with_reducible refine ex_drew ?_) | (with_reducible refine ex_alloc ?_ _)))).trans hA1); clear hcur; have hcur := hcur2; clear hcur2)); refine mixQH_mk (⟨_, kx_of (App.ofEx' hcur.out (by (try show Ex _ _); repeat (first | (with_reducible exact ex_refl _) | (with_reducible assumption) | (with_reducible refine ex_drewL ?_) | (with_reducible refine ex_appR ?_ _) | (with_reducible refine ex_wx ?_ _) | (with_reducible refine ex_drew ?_) | (with_reducible refine ex_alloc ?_ _)))).block⟩) ?_))
  all_goals (with_reducible refine wpForkH_nil ?_)
  all_goals
    have hq4 : w4.heap[w.heap.size]? = some (.cells #[L et, I ek, dv] 60 (0, 0)) := (hcur.out.block _ z1 hvq).trans hq0.out
    have hp4 : w4.heap[p]? = some (.cells #[L t] 25 (0, 0)) := (hcur.out.block p z2 hne).trans hp0.out
    obtain ⟨s0, _⟩ := block_cell (o := 0) hq4 rfl
    obtain ⟨s2, _⟩ := block_cell (o := 2) hq4 rfl
    obtain ⟨s3, sf3⟩ := block_cell (o := 0) hp4 rfl
    have hA4 : Ex A w4 := hcur.out.ex (ex_trans hA hk0) (HO.out.ex hk0)
    have hv2p : v2.ownBlock ≠ some p := by
      rcases hcur.out.own with e | ⟨g, e, hg⟩
      · rw [e]; exact hne
      · rw [e]; intro h9; have := Option.some.inj h9; omega
    have hp5 : (w4.setCell ⟨p, 0, none⟩ (L et)).heap[p]? = some (.cells #[L et] 25 (0, 0)) := setCell_block (L et) hp4
    have hO5 : OwnL (w4.setCell ⟨p, 0, none⟩ (L et)) A.heap.size v2 (l ++ shortL x.toNat ++ [byteI ek]) := own_kept hO2 (fun g hg => setCell_heap _ (fun e => hv2p (e ▸ hg)))
    have hA5 : Ex A (w4.setCell ⟨p, 0, none⟩ (L et)) := ex_set hA4 hpA (L et)
    have HRaw := Lib.hid (raw_any _ ed v2 dv _ hA5 hO5 HD.out (by simp; omega) (by omega))
    have hps4 : p < (w4.setCell ⟨p, 0, none⟩ (L et)).heap.size := (Array.getElem?_eq_some_iff.1 hp5).1
    have hne2 : p ≠ w.heap.size := by omega
    replace hO2 := Lib.hid hO2
    replace hO5 := Lib.hid hO5
    replace hA5 := Lib.hid hA5
    replace hp4 := Lib.hid hp4
    replace hp5 := Lib.hid hp5
    replace hq4 := Lib.hid hq4
    replace hps4 := Lib.hid hps4
    clear r0 r1 r2 r3 HS HB
    go_wp2_with (go_at_call 58; (with_reducible refine (HRaw.out).mono ?_); rintro e w6 ⟨v3, rfl, hO6, hA6⟩)
    go_ret
    refine ⟨v3, rfl, ?_, hA6.ex hA5.out hO5.out, (hA6.block p hps4.out hv2p).trans hp5.out, ?_⟩
    · have e : entL t (et, ek, ed) = shortL x.toNat ++ [byteI ek] ++ (shortL ed.length ++ ed) := by unfold entL; simp only [hx]; simp
      rw [e]
      simpa [List.append_assoc] using hO6
    · rcases hA6.own with e | ⟨g, e, hg⟩
      · rw [e]; exact hv2p
      · have := hps4.out
        rw [e]; intro h9; have := Option.some.inj h9; omega
end Go.Proofs.YtpcfkjeikhehaaaDoor

/- Lists of entries and of members, as bytes. -/
set_option linter.unusedSimpArgs false
set_option linter.unusedVariables false
set_option maxRecDepth 20000
namespace Go.Proofs.YtpcfkjeikhehaaaDoor
open Go.RowKit
theorem lastT_cons (t : UInt64) (e : En) (l : List En) : lastT t (e :: l) = lastT e.1 l := by
  unfold lastT
  cases l with
  | nil => rfl
  | cons a l =>
    rw [List.getLast?_cons_cons]
    cases h9 : (a :: l).getLast? with
    | none => simp at h9
    | some x => rfl
theorem ents_snoc : ∀ (l : List En) (t : UInt64) (e : En), entsL t (l ++ [e]) = entsL t l ++ entL (lastT t l) e
  | [], t, e => by simp [entsL, lastT]
  | a :: l, t, e => by
    rw [List.cons_append]
    show entL t a ++ entsL a.1 (l ++ [e]) = entL t a ++ entsL a.1 l ++ entL (lastT t (a :: l)) e
    rw [ents_snoc l a.1 e, lastT_cons, List.append_assoc]
theorem take_en {l : List En} {k : Nat} (h : k < l.length) : l.take (k + 1) = l.take k ++ [enAt l k] := by
  rw [List.take_add_one, enAt_get h]; rfl
theorem lastT_snoc (t : UInt64) (l : List En) (e : En) : lastT t (l ++ [e]) = e.1 := by unfold lastT; simp
set_option maxHeartbeats 2000000 in
theorem listE_any {A : World} (l : List UInt8) (t : UInt64) (es : List En) (v ev : Value) (p : Nat) (w : World) (hA : Ex A w) (hown : OwnL w A.heap.size v l) (hs : SlG A ev es)
    (hp : w.heap[p]? = some (.cells #[L t] 25 (0, 0))) (hpA : A.heap.size ≤ p) (hne : v.ownBlock ≠ some p) (hn : es.length ≤ 1000) (hb : ∀ k, k ≤ es.length → (l ++ shortL es.length ++ entsL t (es.take k)).length ≤ 900000) (hd : ∀ i, i < es.length → (enAt es i).2.2.length ≤ 90000) :
    Calls Tryd.prog 56 #[v, ev, .func (.func 57) #[] #[.pointer (some ⟨p, 0, none⟩)]] w fun e' w' => ∃ v', e' = .returned v' ∧ OwnL w' A.heap.size v' (l ++ (shortL es.length ++ entsL t es)) ∧ Ex A w' := by
  have hz := ex_size hA
  have hps : p < w.heap.size := (Array.getElem?_eq_some_iff.1 hp).1
  obtain ⟨a, cc, rfl, hc, hcm, _, hs2⟩ := hs.out
  have HE : Hid (∀ W, Ex A W → ∀ i, i < es.length → ∃ g off da dc, a = some ⟨g, off, none⟩ ∧ g < A.heap.size ∧ W.cell? ⟨g, off + i * 3, none⟩ = some (L (enAt es i).1) ∧ W.cell? ⟨g, off + i * 3 + 1, none⟩ = some (I (enAt es i).2.1) ∧
    W.cell? ⟨g, off + i * 3 + 2, none⟩ = some (.slice da (enAt es i).2.2.length dc) ∧ SlT A (.slice da (enAt es i).2.2.length dc) (enAt es i).2.2) := Lib.hid fun W k i hi => by
      obtain ⟨g, off, da, dc, h1, h2, h3, h4, h5, h6⟩ := hs2.row hi
      obtain ⟨X, rfl⟩ := k
      exact ⟨g, off, da, dc, h1, h2, by rw [wx_cell _ _ _ h2]; exact h3, by rw [wx_cell _ _ _ h2]; exact h4, by rw [wx_cell _ _ _ h2]; exact h5, h6⟩
  obtain ⟨tk, htk⟩ : ∃ tk : Nat → UInt64, tk = fun k => lastT t (es.take k) := ⟨_, rfl⟩
  obtain ⟨pre, hpre⟩ : ∃ pre : Nat → List UInt8, pre = fun k => entsL t (es.take k) := ⟨_, rfl⟩
  have HT0 : Hid (tk 0 = t) := Lib.hid (by subst htk; rfl)
  have HT1 : Hid (∀ k, k < es.length → tk (k + 1) = (enAt es k).1) := Lib.hid fun k hk => by subst htk; simp only [take_en hk, lastT_snoc]
  have HP0 : Hid (pre 0 = []) := Lib.hid (by subst hpre; rfl)
  have HP1 : Hid (∀ k, k < es.length → pre (k + 1) = pre k ++ entL (tk k) (enAt es k)) := Lib.hid fun k hk => by subst hpre htk; simp only [take_en hk, ents_snoc]
  have HPn : Hid (pre es.length = entsL t es) := Lib.hid (by subst hpre; simp)
  have HB : Hid (∀ k, k ≤ es.length → (l ++ shortL es.length ++ pre k).length ≤ 900000) := Lib.hid (by subst hpre; exact hb)
  have HDl : Hid (∀ i, i < es.length → (enAt es i).2.2.length ≤ 90000) := Lib.hid hd
  have HS := Lib.hid (fun w' => short_any es.length w' (by omega))
  have hsl := shortL_len (x := es.length) (by omega)
  have hl0 : l.length ≤ 900000 := by have := hb 0 (by omega); simp at this; omega
  have HO := Lib.hid hown
  have HA := Lib.hid hA
  have HPp := Lib.hid hp
  clear htk hpre hb hd hown hp hs hs2
  generalize entsL t es = fin at *
  generalize enAt es = E at *
  generalize es.length = n at *
  have w1 : IntKind.u64.wrap (n : Int) = n := wrap_u64_nat _ (by omega)
  unfold maxLen at hcm
  go_enter Tryd.func56, Tryd.ntmps56
  go_wp2_with (first | (go_at_call 11; (with_reducible refine (HS.out _).mono ?_); rintro e w2 ⟨s, rfl, hS, k2⟩) | (at_builtin; refine wpAppT _ _ rfl rfl (HO.out.ex k2) rfl rfl hS.slt (by omega) (Nat.le_trans hz (ex_size k2)) (fun v1 w3 hO1 hA1 => ?_)))
  go_loopw [0, 17] (fun b i W => ∃ k : Nat, k ≤ n ∧ i = I k ∧ Hid (OwnL W A.heap.size b (l ++ shortL n ++ pre k)) ∧ Hid (Ex A W) ∧ Hid (W.heap[p]? = some (.cells #[L (tk k)] 25 (0, 0))) ∧ Hid (b.ownBlock ≠ some p)) (fun _ i _ => n - (intOf i).toNat)
  case atStart =>
    have hps2 : p < w2.heap.size := Nat.lt_of_lt_of_le hps (ex_size k2)
    refine ⟨0, by omega, rfl, Lib.hid ?_, Lib.hid (hA1.ex (ex_trans HA.out k2) (HO.out.ex k2)), Lib.hid ?_, Lib.hid ?_⟩
    · rw [HP0.out, List.append_nil]; exact hO1
    · rw [HT0.out, hA1.block p hps2 hne]; exact ex_block k2 HPp.out
    · rcases hA1.own with e | ⟨g, e, hg⟩
      · show v1.ownBlock ≠ some p
        rw [e]; exact hne
      · show v1.ownBlock ≠ some p
        rw [e]; intro h9; have := Option.some.inj h9; omega
  case round =>
    obtain ⟨k, hk, rfl, hO, hAr, hpr, hnr⟩ := hrel
    by_cases hlt : k < n
    · obtain ⟨g, off, da, dc, rfl, r1, c0, c1, c2, hdat⟩ := HE.out _ hAr.out k hlt
      have hz3 := ex_size hAr.out
      have hgr : g < wr.heap.size := by omega
      have hT := HT1.out k hlt
      have hPk := Lib.hid (HP1.out k hlt)
      have hBk := Lib.hid (HB.out k hk)
      have hdl := HDl.out k hlt
      clear HE HT1 HP1 HB HDl HT0 HP0 HS hA1 hO1 HO HPp
      generalize E k = e at *
      generalize tk k = tkk at *
      go_wp2_with (go_at_call 57; (with_reducible refine (plain1_any (A := A) (l ++ shortL n ++ pre k) tkk e u0 _ p _ (ex_trans hAr.out (by (try show Ex _ _); repeat (first | (with_reducible exact ex_refl _) | (with_reducible assumption) | (with_reducible refine ex_drewL ?_) | (with_reducible refine ex_appR ?_ _) | (with_reducible refine ex_wx ?_ _) | (with_reducible refine ex_drew ?_) | (with_reducible refine ex_alloc ?_ _)))) (hO.out.ex (by (try show Ex _ _); repeat (first | (with_reducible exact ex_refl _) | (with_reducible assumption) | (with_reducible refine ex_drewL ?_) | (with_reducible refine ex_appR ?_ _) | (with_reducible refine ex_wx ?_ _) | (with_reducible refine ex_drew ?_) | (with_reducible refine ex_alloc ?_ _)))) hdat (ex_block (by (try show Ex _ _); repeat (first | (with_reducible exact ex_refl _) | (with_reducible assumption) | (with_reducible refine ex_drewL ?_) | (with_reducible refine ex_appR ?_ _) | (with_reducible refine ex_wx ?_ _) | (with_reducible refine ex_drew ?_) | (with_reducible refine ex_alloc ?_ _))) hpr.out) hpA hnr.out hBk.out hdl).mono ?_); rintro e' w4 ⟨v', rfl, q1, q2, q3, q4⟩)
      refine ⟨⟨k + 1, by omega, by go_num, Lib.hid ?_, Lib.hid q2, Lib.hid ?_, Lib.hid q4⟩, by simp [intOf]; omega⟩
      · rw [hPk.out, ← List.append_assoc]; exact q1
      · rw [hT]; exact q3
    · obtain rfl : k = n := by omega
      clear hlt hk HE HT1 HP1 HB HDl HT0 HP0 HS hA1 hO1 HO HPp
      go_wp2
      go_ret
      refine ⟨_, rfl, ?_, hAr.out⟩
      rw [← HPn.out, ← List.append_assoc]
      exact hO.out
theorem plain2_any {A : World} (l : List UInt8) (n : Int) (v : Value) (w : World) (hA : Ex A w) (hown : OwnL w A.heap.size v l) (hl : l.length ≤ 900000) :
    Calls Tryd.prog 60 #[v, I n] w fun e' w' => ∃ v', e' = .returned v' ∧ OwnL w' A.heap.size v' (l ++ [byteI n]) ∧ Ex A w' := by
  have hz := ex_size hA
  have HB := Lib.hid (bn_byteI n)
  have HO := Lib.hid hown
  clear hown
  go_enter Tryd.func60, Tryd.ntmps60
  go_wp2_with (at_builtin; refine wpAppT _ _ rfl rfl (HO.out.ex (by (try show Ex _ _); repeat (first | (with_reducible exact ex_refl _) | (with_reducible assumption) | (with_reducible refine ex_drewL ?_) | (with_reducible refine ex_appR ?_ _) | (with_reducible refine ex_wx ?_ _) | (with_reducible refine ex_drew ?_) | (with_reducible refine ex_alloc ?_ _)))) rfl rfl (sls_one (byteI n) (by (try show Ex _ _); repeat (first | (with_reducible exact ex_refl _) | (with_reducible assumption) | (with_reducible refine ex_drewL ?_) | (with_reducible refine ex_appR ?_ _) | (with_reducible refine ex_wx ?_ _) | (with_reducible refine ex_drew ?_) | (with_reducible refine ex_alloc ?_ _))) (by first | rfl | omega) HB.out.symm).slt (by simp; omega) (Nat.le_trans hz (ex_size (by (try show Ex _ _); repeat (first | (with_reducible exact ex_refl _) | (with_reducible assumption) | (with_reducible refine ex_drewL ?_) | (with_reducible refine ex_appR ?_ _) | (with_reducible refine ex_wx ?_ _) | (with_reducible refine ex_drew ?_) | (with_reducible refine ex_alloc ?_ _))))) (fun v1 w3 hO1 hA1 => ?_))
  go_ret
  exact ⟨v1, rfl, hO1, hA1.ex (ex_trans hA (by (try show Ex _ _); repeat (first | (with_reducible exact ex_refl _) | (with_reducible assumption) | (with_reducible refine ex_drewL ?_) | (with_reducible refine ex_appR ?_ _) | (with_reducible refine ex_wx ?_ _) | (with_reducible refine ex_drew ?_) | (with_reducible refine ex_alloc ?_ _)))) (HO.out.ex (by (try show Ex _ _); repeat (first | (with_reducible exact ex_refl _) | (with_reducible assumption) | (with_reducible refine ex_drewL ?_) | (with_reducible refine ex_appR ?_ _) | (with_reducible refine ex_wx ?_ _) | (with_reducible refine ex_drew ?_) | (with_reducible refine ex_alloc ?_ _))))⟩
theorem take_in {l : List Int} {k : Nat} (h : k < l.length) : l.take (k + 1) = l.take k ++ [inAt l k] := by
  rw [List.take_add_one, inAt_get h]; rfl
set_option maxHeartbeats 2000000 in
theorem listI_any {A : World} (l : List UInt8) (ns : List Int) (v nv : Value) (w : World) (hA : Ex A w) (hown : OwnL w A.heap.size v l) (hs : SlZ A nv ns) (hn : ns.length ≤ 1000) (hl : l.length ≤ 800000) :
    Calls Tryd.prog 59 #[v, nv, .func (.func 60) #[] #[]] w fun e' w' => ∃ v', e' = .returned v' ∧ OwnL w' A.heap.size v' (l ++ (shortL ns.length ++ ns.map byteI)) ∧ Ex A w' := by
  have hz := ex_size hA
  obtain ⟨a, cc, rfl, hc, hcm, _, hs2⟩ := hs.out
  have HE : Hid (∀ W, Ex A W → ∀ i, i < ns.length → ∃ g off, a = some ⟨g, off, none⟩ ∧ g < A.heap.size ∧ W.cell? ⟨g, off + i, none⟩ = some (I (inAt ns i))) := Lib.hid fun W k i hi => by
      obtain ⟨g, off, h1, h2, h3⟩ := hs2.row hi
      obtain ⟨X, rfl⟩ := k
      exact ⟨g, off, h1, h2, by rw [wx_cell _ _ _ h2]; exact h3⟩
  obtain ⟨pre, hpre⟩ : ∃ pre : Nat → List UInt8, pre = fun k => (ns.take k).map byteI := ⟨_, rfl⟩
  have HP0 : Hid (pre 0 = []) := Lib.hid (by subst hpre; rfl)
  have HP1 : Hid (∀ k, k < ns.length → pre (k + 1) = pre k ++ [byteI (inAt ns k)]) := Lib.hid fun k hk => by subst hpre; simp only [take_in hk, List.map_append, List.map_cons, List.map_nil]
  have HPn : Hid (pre ns.length = ns.map byteI) := Lib.hid (by subst hpre; simp)
  have HB : Hid (∀ k, k ≤ ns.length → (l ++ shortL ns.length ++ pre k).length ≤ 900000) := Lib.hid fun k hk => by
    subst hpre
    have := shortL_len (x := ns.length) (by omega)
    simp; omega
  have HS := Lib.hid (fun w' => short_any ns.length w' (by omega))
  have hsl := shortL_len (x := ns.length) (by omega)
  have HO := Lib.hid hown
  have HA := Lib.hid hA
  clear hpre hown hs hs2
  generalize ns.map byteI = fin at *
  generalize inAt ns = E at *
  generalize ns.length = n at *
  have w1 : IntKind.u64.wrap (n : Int) = n := wrap_u64_nat _ (by omega)
  unfold maxLen at hcm
  go_enter Tryd.func59, Tryd.ntmps59
  go_wp2_with (first | (go_at_call 11; (with_reducible refine (HS.out _).mono ?_); rintro e w2 ⟨s, rfl, hS, k2⟩) | (at_builtin; refine wpAppT _ _ rfl rfl (HO.out.ex k2) rfl rfl hS.slt (by omega) (Nat.le_trans hz (ex_size k2)) (fun v1 w3 hO1 hA1 => ?_)))
  go_loopw [0, 17] (fun b i W => ∃ k : Nat, k ≤ n ∧ i = I k ∧ Hid (OwnL W A.heap.size b (l ++ shortL n ++ pre k)) ∧ Hid (Ex A W)) (fun _ i _ => n - (intOf i).toNat)
  case atStart =>
    refine ⟨0, by omega, rfl, Lib.hid ?_, Lib.hid (hA1.ex (ex_trans HA.out k2) (HO.out.ex k2))⟩
    rw [HP0.out, List.append_nil]; exact hO1
  case round =>
    obtain ⟨k, hk, rfl, hO, hAr⟩ := hrel
    by_cases hlt : k < n
    · obtain ⟨g, off, rfl, r1, c0⟩ := HE.out _ hAr.out k hlt
      have hz3 := ex_size hAr.out
      have hgr : g < wr.heap.size := by omega
      have hPk := Lib.hid (HP1.out k hlt)
      have hBk := Lib.hid (HB.out k hk)
      clear HE HP1 HB HP0 HS hA1 hO1 HO
      generalize E k = e at *
      go_wp2_with (go_at_call 60; (with_reducible refine (plain2_any (A := A) (l ++ shortL n ++ pre k) e u0 _ (ex_trans hAr.out (by (try show Ex _ _); repeat (first | (with_reducible exact ex_refl _) | (with_reducible assumption) | (with_reducible refine ex_drewL ?_) | (with_reducible refine ex_appR ?_ _) | (with_reducible refine ex_wx ?_ _) | (with_reducible refine ex_drew ?_) | (with_reducible refine ex_alloc ?_ _)))) (hO.out.ex (by (try show Ex _ _); repeat (first | (with_reducible exact ex_refl _) | (with_reducible assumption) | (with_reducible refine ex_drewL ?_) | (with_reducible refine ex_appR ?_ _) | (with_reducible refine ex_wx ?_ _) | (with_reducible refine ex_drew ?_) | (with_reducible refine ex_alloc ?_ _)))) hBk.out).mono ?_); rintro e' w4 ⟨v', rfl, q1, q2⟩)
      refine ⟨⟨k + 1, by omega, by go_num, Lib.hid ?_, Lib.hid q2⟩, by simp [intOf]; omega⟩
      rw [hPk.out, ← List.append_assoc]; exact q1
    · obtain rfl : k = n := by omega
      clear hlt hk HE HP1 HB HP0 HS hA1 hO1 HO
      go_wp2
      go_ret
      refine ⟨_, rfl, ?_, hAr.out⟩
      rw [← HPn.out, ← List.append_assoc]
      exact hO.out
end Go.Proofs.YtpcfkjeikhehaaaDoor
