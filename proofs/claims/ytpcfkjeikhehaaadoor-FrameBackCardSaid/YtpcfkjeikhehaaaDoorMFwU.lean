import Derived.Test.YtpcfkjeikhehaaaDoorMFwS

/- The document's Sealed. -/
set_option linter.unusedSimpArgs false
set_option linter.unusedVariables false
set_option maxRecDepth 20000
namespace Go.Proofs.YtpcfkjeikhehaaaDoor
open Go.RowKit
set_option maxHeartbeats 1000000 in
theorem refsealed_any (l : List UInt8) (v : Value) (w : World) (hs : SlT w v l) (hl : l.length ≤ 900000) :
    Calls Tryd.prog 25 #[v] w (PostOw w (sealL l)) := by
  have HS := Lib.hid hs
  obtain ⟨a, c, rfl, h1, h2, _⟩ := hs.out
  clear hs
  have h16 : ((bytesD (sumD l)).take 16).length = 16 := by rw [List.length_take, bytesD_len]; rfl
  have HF : Hid ((bytesD (sumD l)).take 16 ++ l = sealL l) := Lib.hid rfl
  go_enter Tryd.func25, Tryd.ntmps25
  go_wp2_with (first | (go_at_call 47; (with_reducible refine (refsum_slt (HS.out.ex (by (try show Ex _ _); repeat (first | (with_reducible exact ex_refl _) | (with_reducible assumption) | (with_reducible refine ex_drewL ?_) | (with_reducible refine ex_appR ?_ _) | (with_reducible refine ex_wx ?_ _) | (with_reducible refine ex_drew ?_) | (with_reducible refine ex_alloc ?_ _)))) (by omega)).mono ?_); rintro e w2 ⟨rfl, X, rfl⟩) | (go_at_call 48; (with_reducible refine (both_any _ _ _ _ _ (sls_dg16 (sumD l) (by (try show Ex _ _); repeat (first | (with_reducible exact ex_refl _) | (with_reducible assumption) | (with_reducible refine ex_drewL ?_) | (with_reducible refine ex_appR ?_ _) | (with_reducible refine ex_wx ?_ _) | (with_reducible refine ex_drew ?_) | (with_reducible refine ex_alloc ?_ _))) (by simp [go_sem])).slt (HS.out.ex (by (try show Ex _ _); repeat (first | (with_reducible exact ex_refl _) | (with_reducible assumption) | (with_reducible refine ex_drewL ?_) | (with_reducible refine ex_appR ?_ _) | (with_reducible refine ex_wx ?_ _) | (with_reducible refine ex_drew ?_) | (with_reducible refine ex_alloc ?_ _)))) (by omega)).mono ?_); rintro e w2 ⟨v2, rfl, hO, X2, rfl⟩))
  go_ret
  refine ⟨_, rfl, ?_, (by (try show Ex _ _); repeat (first | (with_reducible exact ex_refl _) | (with_reducible assumption) | (with_reducible refine ex_drewL ?_) | (with_reducible refine ex_appR ?_ _) | (with_reducible refine ex_wx ?_ _) | (with_reducible refine ex_drew ?_) | (with_reducible refine ex_alloc ?_ _)))⟩
  rw [← HF.out]
  exact owns_low hO (by simp [go_sem] <;> omega)
end Go.Proofs.YtpcfkjeikhehaaaDoor

/- The document's fields. -/
set_option linter.unusedSimpArgs false
set_option linter.unusedVariables false
set_option maxRecDepth 20000
namespace Go.Proofs.YtpcfkjeikhehaaaDoor
open Go.RowKit
theorem refshort_l (x : UInt64) (w : World) : Calls Tryd.prog 12 #[L x] w (PostOw w (shortL x.toNat)) := refshort_any x.toNat w (u64_toNat x)
set_option maxHeartbeats 1000000 in
theorem field_c (m : Ms) (v : Value) (w : World) (hs : MsV w v m) :
    Calls Tryd.prog 65 #[v, .int .u8 99] w (PostOw w (shortL m.cm.toNat)) := by
  obtain ⟨ev, mv, dv, rfl, _, _, _⟩ := hs.out
  clear hs
  have HS := Lib.hid (refshort_l m.cm)
  go_enter Tryd.func65, Tryd.ntmps65
  go_wp2_with (go_at_call 12; (with_reducible refine (HS.out _).mono ?_); rintro e w2 ⟨s1, rfl, hO, X1, rfl⟩)
  go_ret
  exact ⟨_, rfl, owns_low hO (by simp [go_sem]), (by (try show Ex _ _); repeat (first | (with_reducible exact ex_refl _) | (with_reducible assumption) | (with_reducible refine ex_drewL ?_) | (with_reducible refine ex_appR ?_ _) | (with_reducible refine ex_wx ?_ _) | (with_reducible refine ex_drew ?_) | (with_reducible refine ex_alloc ?_ _)))⟩
set_option maxHeartbeats 1000000 in
theorem field_o (m : Ms) (v : Value) (w : World) (hs : MsV w v m) :
    Calls Tryd.prog 65 #[v, .int .u8 111] w (PostOw w [boolL m.ok]) := by
  obtain ⟨ev, mv, dv, rfl, _, _, _⟩ := hs.out
  clear hs
  generalize m.ok = ob
  cases ob with
  | true =>
    go_enter Tryd.func65, Tryd.ntmps65
    go_wp2
    go_ret
    exact ⟨_, rfl, ownl_one (z := 1) (w := w.alloc (.cells #[I m.kd, I m.fr, I m.to, L m.tm, L m.pi, L m.pt, ev, L m.cm, .bool true, mv, dv] 41)) 1 (by (try show Ex _ _); repeat (first | (with_reducible exact ex_refl _) | (with_reducible assumption) | (with_reducible refine ex_drewL ?_) | (with_reducible refine ex_appR ?_ _) | (with_reducible refine ex_wx ?_ _) | (with_reducible refine ex_drew ?_) | (with_reducible refine ex_alloc ?_ _))) (by first | rfl | (simp [go_sem]; done)) (by simp [go_sem]) rfl, (by (try show Ex _ _); repeat (first | (with_reducible exact ex_refl _) | (with_reducible assumption) | (with_reducible refine ex_drewL ?_) | (with_reducible refine ex_appR ?_ _) | (with_reducible refine ex_wx ?_ _) | (with_reducible refine ex_drew ?_) | (with_reducible refine ex_alloc ?_ _)))⟩
  | false =>
    go_enter Tryd.func65, Tryd.ntmps65
    go_wp2
    go_ret
    exact ⟨_, rfl, ownl_one (z := 0) (w := w.alloc (.cells #[I m.kd, I m.fr, I m.to, L m.tm, L m.pi, L m.pt, ev, L m.cm, .bool false, mv, dv] 41)) 0 (by (try show Ex _ _); repeat (first | (with_reducible exact ex_refl _) | (with_reducible assumption) | (with_reducible refine ex_drewL ?_) | (with_reducible refine ex_appR ?_ _) | (with_reducible refine ex_wx ?_ _) | (with_reducible refine ex_drew ?_) | (with_reducible refine ex_alloc ?_ _))) (by first | rfl | (simp [go_sem]; done)) (by simp [go_sem]) rfl, (by (try show Ex _ _); repeat (first | (with_reducible exact ex_refl _) | (with_reducible assumption) | (with_reducible refine ex_drewL ?_) | (with_reducible refine ex_appR ?_ _) | (with_reducible refine ex_wx ?_ _) | (with_reducible refine ex_drew ?_) | (with_reducible refine ex_alloc ?_ _)))⟩
set_option maxHeartbeats 1000000 in
theorem field_p (m : Ms) (v : Value) (w : World) (hs : MsV w v m) :
    Calls Tryd.prog 65 #[v, .int .u8 112] w (PostOw w (shortL m.pi.toNat ++ shortL m.pt.toNat)) := by
  obtain ⟨ev, mv, dv, rfl, _, _, _⟩ := hs.out
  clear hs
  have HS := Lib.hid (refshort_l m.pi)
  have HT := Lib.hid (refshort_l m.pt)
  have l1 := shortL_len (u64_toNat m.pi)
  have l2 := shortL_len (u64_toNat m.pt)
  generalize shortL m.pi.toNat = s1 at *
  generalize shortL m.pt.toNat = s2 at *
  obtain ⟨A, hA⟩ : ∃ A, w.alloc (.cells #[I m.kd, I m.fr, I m.to, L m.tm, L m.pi, L m.pt, ev, L m.cm, .bool m.ok, mv, dv] 41) = A := ⟨_, rfl⟩
  have hq0 : A.heap[w.heap.size]? = some (.cells #[I m.kd, I m.fr, I m.to, L m.tm, L m.pi, L m.pt, ev, L m.cm, .bool m.ok, mv, dv] 41 (0, 0)) := by rw [← hA]; exact heap_alloc_new w _
  have hz0 : w.heap.size < A.heap.size := by rw [← hA]; simp [go_sem]
  have hk0 : Ex w A := by rw [← hA]; exact ex_alloc (ex_refl _) _
  obtain ⟨r4, _⟩ := block_cell (o := 4) hq0 rfl
  obtain ⟨r5, _⟩ := block_cell (o := 5) hq0 rfl
  simp only [List.getElem_toArray, List.getElem_cons_zero, List.getElem_cons_succ] at r4 r5
  replace hA := Lib.hid hA
  clear hq0
  go_enter Tryd.func65, Tryd.ntmps65
  go_wp2
  rw [hA.out]
  clear hA
  generalize m.pi = pi at *
  generalize m.pt = pt at *
  refine wp_region_fork (A) (.look 0 (.look 1 (.look 2 (.look 4 (.look 5 (.look 6 (.eff 3 (.eff 7 (.eff 8 (.look 9 .done)))))))))) (by (try show Ex _ _); repeat (first | (with_reducible exact ex_refl _) | (with_reducible assumption) | (with_reducible refine ex_drewL ?_) | (with_reducible refine ex_appR ?_ _) | (with_reducible refine ex_wx ?_ _) | (with_reducible refine ex_drew ?_) | (with_reducible refine ex_alloc ?_ _))) (by kernel_rfl) (by kernel_rfl) (fun _ _ d _ _ h => by cases d <;> exact h) ?_
  simp only [Fk.ops, nth]
  repeat (first | ((with_reducible refine wpFork_look ?_); go_big_quiet_step (fail); (try (with_reducible refine wpQuiet_nil ?_))) | (with_reducible refine wpFork_eff ?_) | ((with_reducible refine effT_F ?_ ?_); (focus rfl); go_simp) | ((with_reducible refine effT_T ?_ ?_); (focus rfl); (try dsimp only); go_wp2_with (first | (go_at_call 12; (with_reducible refine (HS.out _).mono ?_); rintro e w2 ⟨u1, rfl, hS, X8, rfl⟩; (try simp only [wx_wx, wx_drew] at hS)) | (go_at_call 12; (with_reducible refine (HT.out _).mono ?_); rintro e w2 ⟨u2, rfl, hT, X8, rfl⟩; (try simp only [wx_wx, wx_drew] at hT)) | (go_at_call 48; (with_reducible refine (both_any _ _ _ _ _ (hS.slt.ex (by (try show Ex _ _); repeat (first | (with_reducible exact ex_refl _) | (with_reducible assumption) | (with_reducible refine ex_drewL ?_) | (with_reducible refine ex_appR ?_ _) | (with_reducible refine ex_wx ?_ _) | (with_reducible refine ex_drew ?_) | (with_reducible refine ex_alloc ?_ _)))) (hT.slt.ex (by (try show Ex _ _); repeat (first | (with_reducible exact ex_refl _) | (with_reducible assumption) | (with_reducible refine ex_drewL ?_) | (with_reducible refine ex_appR ?_ _) | (with_reducible refine ex_wx ?_ _) | (with_reducible refine ex_drew ?_) | (with_reducible refine ex_alloc ?_ _)))) (by omega)).mono ?_); rintro e w2 ⟨u3, rfl, hO, X9, rfl⟩; (try simp only [wx_wx, wx_drew] at hO))); refine mixQ_mk (by (try show Ex _ _); repeat (first | (with_reducible exact ex_refl _) | (with_reducible assumption) | (with_reducible refine ex_drewL ?_) | (with_reducible refine ex_appR ?_ _) | (with_reducible refine ex_wx ?_ _) | (with_reducible refine ex_drew ?_) | (with_reducible refine ex_alloc ?_ _))) ?_))
  all_goals (with_reducible refine wpFork_nil ?_)
  all_goals
    go_wp2
    go_ret
    exact ⟨_, rfl, owns_low hO (by simp [go_sem] <;> omega), ex_trans hk0 (by (try show Ex _ _); repeat (first | (with_reducible exact ex_refl _) | (with_reducible assumption) | (with_reducible refine ex_drewL ?_) | (with_reducible refine ex_appR ?_ _) | (with_reducible refine ex_wx ?_ _) | (with_reducible refine ex_drew ?_) | (with_reducible refine ex_alloc ?_ _)))⟩
set_option maxHeartbeats 1000000 in
theorem field_d (m : Ms) (v : Value) (w : World) (hs : MsV w v m) (hl : m.da.length ≤ 900000) :
    Calls Tryd.prog 65 #[v, .int .u8 100] w (PostOw w (shortL m.da.length ++ m.da)) := by
  obtain ⟨ev, mv, dv, rfl, _, _, h3⟩ := hs.out
  have HB := Lib.hid (fun w' (k : Ex w w') => h3.ex k)
  obtain ⟨a3, c3, rfl, g1, g2, g3, _⟩ := h3.out
  clear hs h3
  have hu : (UInt64.ofNat m.da.length).toNat = m.da.length := by simp; omega
  have HS := Lib.hid (refshort_l (UInt64.ofNat m.da.length))
  rw [hu] at HS
  have hln : (ln (UInt64.ofNat m.da.length)) = (m.da.length : Int) := by unfold ln; rw [hu]
  have hL : L (UInt64.ofNat m.da.length) = .int .u64 (m.da.length : Int) := by show Value.int .u64 (ln _) = _; rw [hln]
  rw [hL] at HS
  have l1 := shortL_len (x := m.da.length) (by omega)
  have w1 : IntKind.u64.wrap (m.da.length : Int) = m.da.length := wrap_u64_nat _ (by omega)
  clear hu hln hL
  generalize shortL m.da.length = s1 at *
  generalize hdl : m.da.length = dl at *
  obtain ⟨A, hA⟩ : ∃ A, w.alloc (.cells #[I m.kd, I m.fr, I m.to, L m.tm, L m.pi, L m.pt, ev, L m.cm, .bool m.ok, mv, .slice a3 dl c3] 41) = A := ⟨_, rfl⟩
  have hq0 : A.heap[w.heap.size]? = some (.cells #[I m.kd, I m.fr, I m.to, L m.tm, L m.pi, L m.pt, ev, L m.cm, .bool m.ok, mv, .slice a3 dl c3] 41 (0, 0)) := by rw [← hA]; exact heap_alloc_new w _
  have hz0 : w.heap.size < A.heap.size := by rw [← hA]; simp [go_sem]
  have hk0 : Ex w A := by rw [← hA]; exact ex_alloc (ex_refl _) _
  obtain ⟨r10, _⟩ := block_cell (o := 10) hq0 rfl
  simp only [List.getElem_toArray, List.getElem_cons_zero, List.getElem_cons_succ] at r10
  replace hA := Lib.hid hA
  replace hdl := Lib.hid hdl
  clear hq0
  go_enter Tryd.func65, Tryd.ntmps65
  go_wp2
  rw [hA.out]
  clear hA
  refine wp_region_fork (A) (.look 0 (.look 1 (.look 2 (.look 3 (.look 5 (.look 6 (.eff 4 (.eff 7 (.look 8 .done))))))))) (by (try show Ex _ _); repeat (first | (with_reducible exact ex_refl _) | (with_reducible assumption) | (with_reducible refine ex_drewL ?_) | (with_reducible refine ex_appR ?_ _) | (with_reducible refine ex_wx ?_ _) | (with_reducible refine ex_drew ?_) | (with_reducible refine ex_alloc ?_ _))) (by kernel_rfl) (by kernel_rfl) (fun _ _ d _ _ h => by cases d <;> exact h) ?_
  simp only [Fk.ops, nth]
  repeat (first | ((with_reducible refine wpFork_look ?_); go_big_quiet_step (fail); (try (with_reducible refine wpQuiet_nil ?_))) | (with_reducible refine wpFork_eff ?_) | ((with_reducible refine effT_F ?_ ?_); (focus rfl); go_simp) | ((with_reducible refine effT_T ?_ ?_); (focus rfl); (try dsimp only); go_wp2_with (first | (go_at_call 12; (with_reducible refine (HS.out _).mono ?_); rintro e w2 ⟨u1, rfl, hS, X8, rfl⟩; (try simp only [wx_wx, wx_drew] at hS)) | (go_at_call 48; (with_reducible refine (both_any _ _ _ _ _ (hS.slt.ex (by (try show Ex _ _); repeat (first | (with_reducible exact ex_refl _) | (with_reducible assumption) | (with_reducible refine ex_drewL ?_) | (with_reducible refine ex_appR ?_ _) | (with_reducible refine ex_wx ?_ _) | (with_reducible refine ex_drew ?_) | (with_reducible refine ex_alloc ?_ _)))) (HB.out _ (ex_trans hk0 (by (try show Ex _ _); repeat (first | (with_reducible exact ex_refl _) | (with_reducible assumption) | (with_reducible refine ex_drewL ?_) | (with_reducible refine ex_appR ?_ _) | (with_reducible refine ex_wx ?_ _) | (with_reducible refine ex_drew ?_) | (with_reducible refine ex_alloc ?_ _))))) (by have := hdl.out; omega)).mono ?_); rintro e w2 ⟨u3, rfl, hO, X9, rfl⟩; (try simp only [wx_wx, wx_drew] at hO))); refine mixQ_mk (by (try show Ex _ _); repeat (first | (with_reducible exact ex_refl _) | (with_reducible assumption) | (with_reducible refine ex_drewL ?_) | (with_reducible refine ex_appR ?_ _) | (with_reducible refine ex_wx ?_ _) | (with_reducible refine ex_drew ?_) | (with_reducible refine ex_alloc ?_ _))) ?_))
  all_goals (with_reducible refine wpFork_nil ?_)
  all_goals
    go_wp2
    go_ret
    exact ⟨_, rfl, owns_low hO (by simp [go_sem] <;> omega), ex_trans hk0 (by (try show Ex _ _); repeat (first | (with_reducible exact ex_refl _) | (with_reducible assumption) | (with_reducible refine ex_drewL ?_) | (with_reducible refine ex_appR ?_ _) | (with_reducible refine ex_wx ?_ _) | (with_reducible refine ex_drew ?_) | (with_reducible refine ex_alloc ?_ _)))⟩
end Go.Proofs.YtpcfkjeikhehaaaDoor

/- The document's field of members. -/
set_option linter.unusedSimpArgs false
set_option linter.unusedVariables false
set_option maxRecDepth 20000
namespace Go.Proofs.YtpcfkjeikhehaaaDoor
open Go.RowKit
set_option maxHeartbeats 2000000 in
theorem field_m (m : Ms) (v : Value) (w : World) (hs : MsV w v m) (hl : m.mb.length ≤ 1000) :
    Calls Tryd.prog 65 #[v, .int .u8 109] w (PostOw w (shortL m.mb.length ++ m.mb.map byteI)) := by
  obtain ⟨ev, mv, dv, rfl, _, h2, _⟩ := hs.out
  obtain ⟨a2, c2, rfl, f1, f2, f3, r2⟩ := h2.out
  have HM : Hid (∀ W, Ex w W → ∀ i, i < m.mb.length → ∃ g off, a2 = some ⟨g, off, none⟩ ∧ g < W.heap.size ∧ W.cell? ⟨g, off + i, none⟩ = some (I (inAt m.mb i))) := Lib.hid fun W k i hi => (r2.ex k).row hi
  clear hs h2 r2
  obtain ⟨pre, hpre⟩ : ∃ pre : Nat → List UInt8, pre = fun k => shortL m.mb.length ++ (m.mb.take k).map byteI := ⟨_, rfl⟩
  have HP0 : Hid (pre 0 = shortL m.mb.length) := Lib.hid (by subst hpre; simp)
  have HP1 : Hid (∀ k, k < m.mb.length → pre (k + 1) = pre k ++ [byteI (inAt m.mb k)]) := Lib.hid fun k hk => by subst hpre; simp only [take_in hk, List.map_append, List.map_cons, List.map_nil, List.append_assoc]
  have HPn : Hid (pre m.mb.length = shortL m.mb.length ++ m.mb.map byteI) := Lib.hid (by subst hpre; simp)
  have HB : Hid (∀ k, k ≤ m.mb.length → (pre k).length ≤ 900000) := Lib.hid fun k hk => by
    subst hpre
    have := shortL_len (x := m.mb.length) (by omega)
    simp; omega
  have HS := Lib.hid (fun w' => refshort_any m.mb.length w' (by omega))
  clear hpre
  generalize shortL m.mb.length ++ m.mb.map byteI = fin at *
  generalize shortL m.mb.length = s0 at *
  generalize inAt m.mb = E at *
  generalize m.mb.length = n at *
  have w1 : IntKind.u64.wrap (n : Int) = n := wrap_u64_nat _ (by omega)
  unfold maxLen at f2
  obtain ⟨A, hA⟩ : ∃ A, w.alloc (.cells #[I m.kd, I m.fr, I m.to, L m.tm, L m.pi, L m.pt, ev, L m.cm, .bool m.ok, .slice a2 n c2, dv] 41) = A := ⟨_, rfl⟩
  have hq0 : A.heap[w.heap.size]? = some (.cells #[I m.kd, I m.fr, I m.to, L m.tm, L m.pi, L m.pt, ev, L m.cm, .bool m.ok, .slice a2 n c2, dv] 41 (0, 0)) := by rw [← hA]; exact heap_alloc_new w _
  have hz0 : w.heap.size < A.heap.size := by rw [← hA]; simp [go_sem]
  have hk0 : Ex w A := by rw [← hA]; exact ex_alloc (ex_refl _) _
  obtain ⟨r9, _⟩ := block_cell (o := 9) hq0 rfl
  simp only [List.getElem_toArray, List.getElem_cons_zero, List.getElem_cons_succ] at r9
  replace hA := Lib.hid hA
  clear hq0
  go_enter Tryd.func65, Tryd.ntmps65
  go_wp2_with (go_at_call 12; (with_reducible refine (HS.out _).mono ?_); rintro e w2 ⟨u1, rfl, hS, X8, rfl⟩; (try simp only [wx_wx, wx_drew] at hS))
  rw [hA.out] at hS ⊢
  clear hA
  go_loopw [5, 97] (fun b i W => ∃ k : Nat, k ≤ n ∧ i = I k ∧ Hid (OwnL W A.heap.size b (pre k)) ∧ Hid (Ex A W)) (fun _ i _ => n - (intOf i).toNat)
  case atStart =>
    refine ⟨0, by omega, rfl, Lib.hid ?_, Lib.hid (by (try show Ex _ _); repeat (first | (with_reducible exact ex_refl _) | (with_reducible assumption) | (with_reducible refine ex_drewL ?_) | (with_reducible refine ex_appR ?_ _) | (with_reducible refine ex_wx ?_ _) | (with_reducible refine ex_drew ?_) | (with_reducible refine ex_alloc ?_ _)))⟩
    rw [HP0.out]; exact owns_low hS (by simp [go_sem])
  case round =>
    obtain ⟨k, hk, rfl, hO, hAr⟩ := hrel
    by_cases hlt : k < n
    · obtain ⟨g, off, rfl, r1, c0⟩ := HM.out _ (ex_trans hk0 hAr.out) k hlt
      have hz3 := ex_size hAr.out
      have hPk := Lib.hid (HP1.out k hlt)
      have hBk := Lib.hid (HB.out k hk)
      clear HM HP1 HB HP0 HS hS
      generalize E k = e at *
      have HBb := Lib.hid (bn_byteI e)
      go_wp2_with (at_builtin; refine wpAppT (Z := A.heap.size) _ _ rfl rfl (hO.out.ex (by (try show Ex _ _); repeat (first | (with_reducible exact ex_refl _) | (with_reducible assumption) | (with_reducible refine ex_drewL ?_) | (with_reducible refine ex_appR ?_ _) | (with_reducible refine ex_wx ?_ _) | (with_reducible refine ex_drew ?_) | (with_reducible refine ex_alloc ?_ _)))) rfl rfl (sls_one (byteI e) (by (try show Ex _ _); repeat (first | (with_reducible exact ex_refl _) | (with_reducible assumption) | (with_reducible refine ex_drewL ?_) | (with_reducible refine ex_appR ?_ _) | (with_reducible refine ex_wx ?_ _) | (with_reducible refine ex_drew ?_) | (with_reducible refine ex_alloc ?_ _))) (by first | rfl | omega) HBb.out.symm).slt (by have := hBk.out; simp; omega) (Nat.le_trans hz3 (ex_size (by (try show Ex _ _); repeat (first | (with_reducible exact ex_refl _) | (with_reducible assumption) | (with_reducible refine ex_drewL ?_) | (with_reducible refine ex_appR ?_ _) | (with_reducible refine ex_wx ?_ _) | (with_reducible refine ex_drew ?_) | (with_reducible refine ex_alloc ?_ _))))) (fun v1 w3 hO1 hA1 => ?_))
      refine ⟨⟨k + 1, by omega, by go_num, Lib.hid ?_, Lib.hid (hA1.ex (ex_trans hAr.out (by (try show Ex _ _); repeat (first | (with_reducible exact ex_refl _) | (with_reducible assumption) | (with_reducible refine ex_drewL ?_) | (with_reducible refine ex_appR ?_ _) | (with_reducible refine ex_wx ?_ _) | (with_reducible refine ex_drew ?_) | (with_reducible refine ex_alloc ?_ _)))) (hO.out.ex (by (try show Ex _ _); repeat (first | (with_reducible exact ex_refl _) | (with_reducible assumption) | (with_reducible refine ex_drewL ?_) | (with_reducible refine ex_appR ?_ _) | (with_reducible refine ex_wx ?_ _) | (with_reducible refine ex_drew ?_) | (with_reducible refine ex_alloc ?_ _)))))⟩, by simp [intOf]; omega⟩
      rw [hPk.out]; exact hO1
    · obtain rfl : k = n := by omega
      clear hlt hk HM HP1 HB HP0 HS hS
      go_wp2
      go_ret
      exact ⟨_, rfl, by rw [← HPn.out]; exact owns_low hO.out (Nat.le_of_lt hz0), ex_trans hk0 hAr.out⟩
end Go.Proofs.YtpcfkjeikhehaaaDoor
