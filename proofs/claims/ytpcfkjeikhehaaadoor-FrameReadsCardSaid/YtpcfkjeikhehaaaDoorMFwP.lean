import Derived.Test.YtpcfkjeikhehaaaDoorMFwY
import Derived.Test.YtpcfkjeikhehaaaDoorMFwT

/- The document's Plain. -/
set_option linter.unusedSimpArgs false
set_option linter.unusedVariables false
set_option maxRecDepth 20000
namespace Go.Proofs.YtpcfkjeikhehaaaDoor
open Go.RowKit
attribute [local go_sem high] index_sbF
theorem headL_len (m : Ms) : (headL m).length ≤ 12 := by
  have := shortL_len (u64_toNat m.tm)
  unfold headL
  simp only [List.length_append, List.length_cons, List.length_nil]
  omega
theorem fieldB_len {m : Ms} (hr : rightM m = true) (f : UInt8) : (fieldB m f).length ≤ 70000 := by
  obtain ⟨⟨a1, a2⟩, zx, ⟨a3, a4, a5, a6⟩, a7, a8, a9, a10, a11⟩ := rightM_spec hr
  have hd := stand_len a11
  unfold fieldB
  repeat' split
  · simp
  · have := shortL_len (u64_toNat m.pi)
    have := shortL_len (u64_toNat m.pt)
    rw [List.length_append]; omega
  · have := shortL_len (u64_toNat m.cm)
    omega
  · have h1 := shortL_len (x := m.es.length) (by omega)
    have h2 := entsL_len m.es m.pt (fun e he => by
      obtain ⟨i, hi, rfl⟩ := List.mem_iff_getElem.1 he
      have := hd i hi
      have h9 := enAt_get hi
      rw [List.getElem?_eq_getElem hi] at h9
      rw [Option.some.inj h9]; exact this)
    rw [List.length_append]; omega
  · have h1 := shortL_len (x := m.mb.length) (by omega)
    rw [List.length_append, List.length_map]; omega
  · have h1 := shortL_len (x := m.da.length) (by omega)
    rw [List.length_append]; omega
theorem fieldsS_size (k : Int) : (fieldsS k).size ≤ 3 := by
  unfold fieldsS fieldsL
  repeat' split
  all_goals decide
set_option maxHeartbeats 2000000 in
theorem refplain_any (m : Ms) (v : Value) (w : World) (hs : MsV w v m) (hr : rightM m = true) :
    Calls Tryd.prog 41 #[v] w (PostOw w (plainM m)) := by
  have HF := Lib.hid (fun w' f (k : Ex w w') (hf : f ∈ fieldsL m.kd) => field_any m f v w' (hs.ex k) hr hf)
  obtain ⟨ev, mv, dv, rfl, _, _, _⟩ := hs.out
  clear hs
  have HS := Lib.hid (refshort_l m.tm)
  have l1 := shortL_len (u64_toNat m.tm)
  obtain ⟨⟨a1, a2⟩, _, ⟨a3, a4, a5, a6⟩, _, _, _, _, _⟩ := rightM_spec hr
  have hz1 : bn (byteI m.kd) = m.kd := by rw [bn_byteI]; omega
  have hz2 : bn (byteI (16 * m.fr + m.to)) = 16 * m.fr + m.to := by rw [bn_byteI]; omega
  have HZ1 := Lib.hid hz1
  have HZ2 := Lib.hid hz2
  clear hz1 hz2
  have HFd := Lib.hid (fields_any m.kd)
  obtain ⟨pre, hpre⟩ : ∃ pre : Nat → List UInt8, pre = fun k => headL m ++ ((fieldsL m.kd).take k).flatMap (fieldB m) := ⟨_, rfl⟩
  have HP0 : Hid (pre 0 = headL m) := Lib.hid (by subst hpre; simp)
  have HPn : Hid (pre (fieldsS m.kd).size = plainM m) := Lib.hid (by
    subst hpre
    rw [← plain_fields ⟨a1, a2⟩]
    show _ ++ ((fieldsL m.kd).take (fieldsL m.kd).length).flatMap _ = _
    rw [List.take_length])
  have HFm : Hid (∀ k, k < (fieldsS m.kd).size → sb (fieldsS m.kd) k ∈ fieldsL m.kd) := Lib.hid fun k hk => (sb_mem _ _).1 ⟨k, hk, rfl⟩
  have HP1 : Hid (∀ k, k < (fieldsS m.kd).size → pre (k + 1) = pre k ++ fieldB m (sb (fieldsS m.kd) k)) := Lib.hid fun k hk => by
    subst hpre
    have hk2 : k < (fieldsL m.kd).length := hk
    have : sb (fieldsS m.kd) k = (fieldsL m.kd)[k] := by simp [sb, fieldsS, hk2]
    simp only [this, List.take_succ_eq_append_getElem hk2, List.flatMap_append, List.append_assoc, List.flatMap_cons, List.flatMap_nil, List.append_nil]
  clear hpre
  have hz3 := fieldsS_size m.kd
  have HBd : Hid (∀ k, k ≤ (fieldsS m.kd).size → (pre k).length ≤ 12 + k * 70000) := Lib.hid fun k => by
    induction k with
    | zero => intro _; rw [HP0.out]; have := headL_len m; omega
    | succ k ih =>
      intro hk
      rw [HP1.out k (by omega), List.length_append]
      have := ih (by omega)
      have := fieldB_len hr (sb (fieldsS m.kd) k)
      omega
  have HBf : Hid (∀ f, (fieldB m f).length ≤ 70000) := Lib.hid (fieldB_len hr)
  obtain ⟨A, hA⟩ : ∃ A, w.alloc (.cells #[I m.kd, I m.fr, I m.to, L m.tm, L m.pi, L m.pt, ev, L m.cm, .bool m.ok, mv, dv] 41) = A := ⟨_, rfl⟩
  have hq0 : A.heap[w.heap.size]? = some (.cells #[I m.kd, I m.fr, I m.to, L m.tm, L m.pi, L m.pt, ev, L m.cm, .bool m.ok, mv, dv] 41 (0, 0)) := by rw [← hA]; exact heap_alloc_new w _
  have hz0 : w.heap.size < A.heap.size := by rw [← hA]; simp [go_sem]
  have hk0 : Ex w A := by rw [← hA]; exact ex_alloc (ex_refl _) _
  obtain ⟨r0, _⟩ := block_cell (o := 0) hq0 rfl
  obtain ⟨r1, _⟩ := block_cell (o := 1) hq0 rfl
  obtain ⟨r2, _⟩ := block_cell (o := 2) hq0 rfl
  obtain ⟨r3, _⟩ := block_cell (o := 3) hq0 rfl
  obtain ⟨n0, _⟩ := block_cells (n := 11) hq0 rfl
  simp only [List.getElem_toArray, List.getElem_cons_zero, List.getElem_cons_succ] at r0 r1 r2 r3
  replace hA := Lib.hid hA
  clear hq0
  go_enter Tryd.func41, Tryd.ntmps41
  go_wp2
  rw [hA.out]
  clear hA
  refine wp_region_fork (A) (.look 0 (.look 1 (.look 2 (.look 3 (.look 4 (.look 5 (.look 6 (.look 7 (.look 8 (.look 9 (.look 11 (.look 12 (.fork 10 (.eff 13 (.eff 14 (.look 15 .done))) 13 (.eff 10 (.eff 14 (.look 15 .done)))))))))))))))) (by (try show Ex _ _); repeat (first | (with_reducible exact ex_refl _) | (with_reducible assumption) | (with_reducible refine ex_drewL ?_) | (with_reducible refine ex_appR ?_ _) | (with_reducible refine ex_wx ?_ _) | (with_reducible refine ex_drew ?_) | (with_reducible refine ex_alloc ?_ _))) (by kernel_rfl) (by kernel_rfl) (fun _ _ d _ _ h => by cases d <;> exact h) ?_
  simp only [Fk.ops, nth]
  repeat (first | ((with_reducible refine wpFork_look ?_); go_big_quiet_step (fail); (try (with_reducible refine wpQuiet_nil ?_))) | (with_reducible refine wpFork_eff ?_) | ((with_reducible refine effT_F ?_ ?_); (focus rfl); go_simp) | ((with_reducible refine effT_T ?_ ?_); (focus rfl); (try dsimp only); go_wp2_with (first | (go_at_call 12; (with_reducible refine (HS.out _).mono ?_); rintro e w2 ⟨u1, rfl, hS, X8, rfl⟩; (try simp only [wx_wx, wx_drew] at hS)) | (go_at_call 48; (with_reducible refine (both_any _ _ _ _ _ (ownl_two (Z := A.heap.size) (byteI m.kd) (byteI (16 * m.fr + m.to)) (by (try show Ex _ _); repeat (first | (with_reducible exact ex_refl _) | (with_reducible assumption) | (with_reducible refine ex_drewL ?_) | (with_reducible refine ex_appR ?_ _) | (with_reducible refine ex_wx ?_ _) | (with_reducible refine ex_drew ?_) | (with_reducible refine ex_alloc ?_ _))) (by first | rfl | (simp [go_sem]; done) | omega) (ex_size (w := A) (by (try show Ex _ _); repeat (first | (with_reducible exact ex_refl _) | (with_reducible assumption) | (with_reducible refine ex_drewL ?_) | (with_reducible refine ex_appR ?_ _) | (with_reducible refine ex_wx ?_ _) | (with_reducible refine ex_drew ?_) | (with_reducible refine ex_alloc ?_ _)))) HZ1.out.symm HZ2.out.symm).slt (hS.slt.ex (by (try show Ex _ _); repeat (first | (with_reducible exact ex_refl _) | (with_reducible assumption) | (with_reducible refine ex_drewL ?_) | (with_reducible refine ex_appR ?_ _) | (with_reducible refine ex_wx ?_ _) | (with_reducible refine ex_drew ?_) | (with_reducible refine ex_alloc ?_ _)))) (by simp; omega)).mono ?_); rintro e w2 ⟨u3, rfl, hO, X9, rfl⟩; (try simp only [wx_wx, wx_drew] at hO))); refine mixQ_mk (by (try show Ex _ _); repeat (first | (with_reducible exact ex_refl _) | (with_reducible assumption) | (with_reducible refine ex_drewL ?_) | (with_reducible refine ex_appR ?_ _) | (with_reducible refine ex_wx ?_ _) | (with_reducible refine ex_drew ?_) | (with_reducible refine ex_alloc ?_ _))) ?_))
  all_goals (try (with_reducible refine wpFork_fork ?_ ?_))
  all_goals repeat (first | ((with_reducible refine wpFork_look ?_); go_big_quiet_step (fail); (try (with_reducible refine wpQuiet_nil ?_))) | (with_reducible refine wpFork_eff ?_) | ((with_reducible refine effT_F ?_ ?_); (focus rfl); go_simp) | ((with_reducible refine effT_T ?_ ?_); (focus rfl); (try dsimp only); go_wp2_with (first | (go_at_call 12; (with_reducible refine (HS.out _).mono ?_); rintro e w2 ⟨u1, rfl, hS, X8, rfl⟩; (try simp only [wx_wx, wx_drew] at hS)) | (go_at_call 48; (with_reducible refine (both_any _ _ _ _ _ (ownl_two (Z := A.heap.size) (byteI m.kd) (byteI (16 * m.fr + m.to)) (by (try show Ex _ _); repeat (first | (with_reducible exact ex_refl _) | (with_reducible assumption) | (with_reducible refine ex_drewL ?_) | (with_reducible refine ex_appR ?_ _) | (with_reducible refine ex_wx ?_ _) | (with_reducible refine ex_drew ?_) | (with_reducible refine ex_alloc ?_ _))) (by first | rfl | (simp [go_sem]; done) | omega) (ex_size (w := A) (by (try show Ex _ _); repeat (first | (with_reducible exact ex_refl _) | (with_reducible assumption) | (with_reducible refine ex_drewL ?_) | (with_reducible refine ex_appR ?_ _) | (with_reducible refine ex_wx ?_ _) | (with_reducible refine ex_drew ?_) | (with_reducible refine ex_alloc ?_ _)))) HZ1.out.symm HZ2.out.symm).slt (hS.slt.ex (by (try show Ex _ _); repeat (first | (with_reducible exact ex_refl _) | (with_reducible assumption) | (with_reducible refine ex_drewL ?_) | (with_reducible refine ex_appR ?_ _) | (with_reducible refine ex_wx ?_ _) | (with_reducible refine ex_drew ?_) | (with_reducible refine ex_alloc ?_ _)))) (by simp; omega)).mono ?_); rintro e w2 ⟨u3, rfl, hO, X9, rfl⟩; (try simp only [wx_wx, wx_drew] at hO))); refine mixQ_mk (by (try show Ex _ _); repeat (first | (with_reducible exact ex_refl _) | (with_reducible assumption) | (with_reducible refine ex_drewL ?_) | (with_reducible refine ex_appR ?_ _) | (with_reducible refine ex_wx ?_ _) | (with_reducible refine ex_drew ?_) | (with_reducible refine ex_alloc ?_ _))) ?_))
  all_goals (with_reducible refine wpFork_nil ?_)
  all_goals
    have hO0 : Hid (OwnL _ A.heap.size u3 (headL m)) := Lib.hid (owns_low hO (by simp [go_sem] <;> omega))
    clear hO hS
    generalize fieldsS m.kd = fs at *
    go_wp2_with (go_at_call 38; (with_reducible refine (HFd.out _).mono ?_); rintro e w2 ⟨rfl, X, rfl⟩)
    generalize hn : fs.size = n at *
    go_loopw [3, 26] (fun b i W => ∃ k : Nat, k ≤ n ∧ i = I k ∧ Hid (OwnL W A.heap.size b (pre k)) ∧ Hid (Ex A W)) (fun _ i _ => n - (intOf i).toNat)
    case atStart =>
      refine ⟨0, by omega, rfl, Lib.hid ?_, Lib.hid (by (try show Ex _ _); repeat (first | (with_reducible exact ex_refl _) | (with_reducible assumption) | (with_reducible refine ex_drewL ?_) | (with_reducible refine ex_appR ?_ _) | (with_reducible refine ex_wx ?_ _) | (with_reducible refine ex_drew ?_) | (with_reducible refine ex_alloc ?_ _)))⟩
      rw [HP0.out]; exact OwnL.ex hO0.out (by (try show Ex _ _); repeat (first | (with_reducible exact ex_refl _) | (with_reducible assumption) | (with_reducible refine ex_drewL ?_) | (with_reducible refine ex_appR ?_ _) | (with_reducible refine ex_wx ?_ _) | (with_reducible refine ex_drew ?_) | (with_reducible refine ex_alloc ?_ _)))
    case round =>
      obtain ⟨k, hk, rfl, hO, hAr⟩ := hrel
      by_cases hlt : k < n
      · obtain ⟨X5, rfl⟩ := hAr.out
        have HFk := Lib.hid (fun w' (kx : Ex A w') => HF.out w' _ (ex_trans hk0 kx) (HFm.out k hlt))
        have HPk := Lib.hid (HP1.out k hlt)
        have HBk := Lib.hid (HBd.out k hk)
        have HBg := Lib.hid (HBf.out (sb fs k))
        have hlt2 : ((k : Nat) : Int) < n := by omega
        have hlt3 : ((k : Nat) : Int) < fs.size := by omega
        clear HF HFm HP1 HBd HBf HP0 hO0
        generalize hsk : sb fs k = fk at *
        go_wp2
        refine wp_region_fork (A) (.look 0 (.look 1 (.look 2 (.look 3 (.look 4 (.eff 5 (.eff 6 (.look 7 .done)))))))) (by (try show Ex _ _); repeat (first | (with_reducible exact ex_refl _) | (with_reducible assumption) | (with_reducible refine ex_drewL ?_) | (with_reducible refine ex_appR ?_ _) | (with_reducible refine ex_wx ?_ _) | (with_reducible refine ex_drew ?_) | (with_reducible refine ex_alloc ?_ _))) (by kernel_rfl) (by kernel_rfl) (fun _ _ d _ _ h => by cases d <;> exact h) ?_
        simp only [Fk.ops, nth]
        repeat (first | ((with_reducible refine wpFork_look ?_); go_big_quiet_step (fail); (try (with_reducible refine wpQuiet_nil ?_))) | (with_reducible refine wpFork_eff ?_) | ((with_reducible refine effT_F ?_ ?_); (focus rfl); go_simp) | ((with_reducible refine effT_T ?_ ?_); (focus rfl); (try dsimp only); go_wp2_with (first | (go_at_call 65; (with_reducible refine (HFk.out _ (by (try show Ex _ _); repeat (first | (with_reducible exact ex_refl _) | (with_reducible assumption) | (with_reducible refine ex_drewL ?_) | (with_reducible refine ex_appR ?_ _) | (with_reducible refine ex_wx ?_ _) | (with_reducible refine ex_drew ?_) | (with_reducible refine ex_alloc ?_ _)))).mono ?_); rintro e w2 ⟨u1, rfl, hT, X8, rfl⟩; (try simp only [wx_wx, wx_drew] at hT)) | (go_at_call 48; (with_reducible refine (both_any _ _ _ _ _ (OwnL.slt (OwnL.ex hO.out (by (try show Ex _ _); repeat (first | (with_reducible exact ex_refl _) | (with_reducible assumption) | (with_reducible refine ex_drewL ?_) | (with_reducible refine ex_appR ?_ _) | (with_reducible refine ex_wx ?_ _) | (with_reducible refine ex_drew ?_) | (with_reducible refine ex_alloc ?_ _))))) (hT.slt.ex (by (try show Ex _ _); repeat (first | (with_reducible exact ex_refl _) | (with_reducible assumption) | (with_reducible refine ex_drewL ?_) | (with_reducible refine ex_appR ?_ _) | (with_reducible refine ex_wx ?_ _) | (with_reducible refine ex_drew ?_) | (with_reducible refine ex_alloc ?_ _)))) (by have := HBk.out; have := HBg.out; omega)).mono ?_); rintro e w2 ⟨u3, rfl, hO8, X9, rfl⟩; (try simp only [wx_wx, wx_drew] at hO8))); refine mixQ_mk (by (try show Ex _ _); repeat (first | (with_reducible exact ex_refl _) | (with_reducible assumption) | (with_reducible refine ex_drewL ?_) | (with_reducible refine ex_appR ?_ _) | (with_reducible refine ex_wx ?_ _) | (with_reducible refine ex_drew ?_) | (with_reducible refine ex_alloc ?_ _))) ?_))
        all_goals (with_reducible refine wpFork_nil ?_)
        all_goals
          go_wp2
          refine ⟨⟨k + 1, by omega, by go_num, Lib.hid ?_, Lib.hid (by (try show Ex _ _); repeat (first | (with_reducible exact ex_refl _) | (with_reducible assumption) | (with_reducible refine ex_drewL ?_) | (with_reducible refine ex_appR ?_ _) | (with_reducible refine ex_wx ?_ _) | (with_reducible refine ex_drew ?_) | (with_reducible refine ex_alloc ?_ _)))⟩, by simp [intOf]; omega⟩
          rw [HPk.out]
          exact owns_low hO8 (by simp [go_sem] <;> omega)
      · obtain rfl : k = n := by omega
        clear hlt hk
        go_wp2
        go_ret
        exact ⟨_, rfl, by rw [← HPn.out]; exact owns_low hO.out (Nat.le_of_lt hz0), ex_trans hk0 hAr.out⟩
end Go.Proofs.YtpcfkjeikhehaaaDoor

/- The document's Bytes. -/
set_option linter.unusedSimpArgs false
set_option linter.unusedVariables false
set_option maxRecDepth 20000
namespace Go.Proofs.YtpcfkjeikhehaaaDoor
open Go.RowKit
set_option maxHeartbeats 1000000 in
theorem refbytes_any (m : Ms) (v : Value) (w : World) (hs : MsV w v m) (hr : rightM m = true) :
    Calls Tryd.prog 20 #[v] w (PostOw w (sealL (plainM m))) := by
  have HP := Lib.hid (fun w' (k : Ex w w') => refplain_any m v w' (hs.ex k) hr)
  have HL := Lib.hid (plain_len hr)
  obtain ⟨ev, mv, dv, rfl, _, _, _⟩ := hs.out
  clear hs
  generalize plainM m = pl at *
  go_enter Tryd.func20, Tryd.ntmps20
  go_wp2_with (first | (go_at_call 41; (with_reducible refine (HP.out _ (by (try show Ex _ _); repeat (first | (with_reducible exact ex_refl _) | (with_reducible assumption) | (with_reducible refine ex_drewL ?_) | (with_reducible refine ex_appR ?_ _) | (with_reducible refine ex_wx ?_ _) | (with_reducible refine ex_drew ?_) | (with_reducible refine ex_alloc ?_ _)))).mono ?_); rintro e w2 ⟨u, rfl, hO, X, rfl⟩; (try simp only [wx_wx, wx_drew] at hO)) | (go_at_call 25; (with_reducible refine (refsealed_any _ _ _ (hO.slt.ex (by (try show Ex _ _); repeat (first | (with_reducible exact ex_refl _) | (with_reducible assumption) | (with_reducible refine ex_drewL ?_) | (with_reducible refine ex_appR ?_ _) | (with_reducible refine ex_wx ?_ _) | (with_reducible refine ex_drew ?_) | (with_reducible refine ex_alloc ?_ _)))) (by have := HL.out; omega)).mono ?_); rintro e w2 ⟨u2, rfl, hO2, X2, rfl⟩; (try simp only [wx_wx, wx_drew] at hO2)))
  go_ret
  exact ⟨_, rfl, owns_low hO2 (by simp [go_sem] <;> omega), (by (try show Ex _ _); repeat (first | (with_reducible exact ex_refl _) | (with_reducible assumption) | (with_reducible refine ex_drewL ?_) | (with_reducible refine ex_appR ?_ _) | (with_reducible refine ex_wx ?_ _) | (with_reducible refine ex_drew ?_) | (with_reducible refine ex_alloc ?_ _)))⟩
end Go.Proofs.YtpcfkjeikhehaaaDoor
