import Derived.Test.YtpcfkjeikhehaaaDoorMFwU

/- The document's field of entries. -/
set_option linter.unusedSimpArgs false
set_option linter.unusedVariables false
set_option maxRecDepth 20000
namespace Go.Proofs.YtpcfkjeikhehaaaDoor
open Go.RowKit
set_option maxHeartbeats 4000000 in
theorem field_e (m : Ms) (v : Value) (w : World) (hs : MsV w v m) (hn : m.es.length ≤ 8) (hd : ∀ i, i < m.es.length → (enAt m.es i).2.2.length ≤ 1024) (hb : ∀ k, k ≤ m.es.length → (shortL m.es.length ++ entsL m.pt (m.es.take k)).length ≤ 100000) :
    Calls Tryd.prog 65 #[v, .int .u8 101] w (PostOw w (shortL m.es.length ++ entsL m.pt m.es)) := by
  obtain ⟨ev, mv, dv, rfl, h1, _, _⟩ := hs.out
  obtain ⟨a1, c1, rfl, f1, f2, f3, r1⟩ := h1.out
  have HE : Hid (∀ W, Ex w W → ∀ i, i < m.es.length → ∃ g off da dc, a1 = some ⟨g, off, none⟩ ∧ g < W.heap.size ∧ W.cell? ⟨g, off + i * 3, none⟩ = some (L (enAt m.es i).1) ∧ W.cell? ⟨g, off + i * 3 + 1, none⟩ = some (I (enAt m.es i).2.1) ∧
    W.cell? ⟨g, off + i * 3 + 2, none⟩ = some (.slice da (enAt m.es i).2.2.length dc) ∧ SlT W (.slice da (enAt m.es i).2.2.length dc) (enAt m.es i).2.2) := Lib.hid fun W k i hi => (r1.ex k).row hi
  clear hs h1 r1
  obtain ⟨tk, htk⟩ : ∃ tk : Nat → UInt64, tk = fun k => lastT m.pt (m.es.take k) := ⟨_, rfl⟩
  obtain ⟨pre, hpre⟩ : ∃ pre : Nat → List UInt8, pre = fun k => shortL m.es.length ++ entsL m.pt (m.es.take k) := ⟨_, rfl⟩
  have HT0 : Hid (tk 0 = m.pt) := Lib.hid (by subst htk; rfl)
  have HT1 : Hid (∀ k, k < m.es.length → tk (k + 1) = (enAt m.es k).1) := Lib.hid fun k hk => by subst htk; simp only [take_en hk, lastT_snoc]
  have HP0 : Hid (pre 0 = shortL m.es.length) := Lib.hid (by subst hpre; simp [entsL])
  have HP1 : Hid (∀ k, k < m.es.length → pre (k + 1) = pre k ++ entL (tk k) (enAt m.es k)) := Lib.hid fun k hk => by subst hpre htk; simp only [take_en hk, ents_snoc, List.append_assoc]
  have HPn : Hid (pre m.es.length = shortL m.es.length ++ entsL m.pt m.es) := Lib.hid (by subst hpre; simp)
  have HB : Hid (∀ k, k ≤ m.es.length → (pre k).length ≤ 100000) := Lib.hid (by subst hpre; exact hb)
  have HDl : Hid (∀ i, i < m.es.length → (enAt m.es i).2.2.length ≤ 1024) := Lib.hid hd
  have HS := Lib.hid (fun w' => refshort_any m.es.length w' (by omega))
  clear hpre htk hb hd
  generalize shortL m.es.length ++ entsL m.pt m.es = fin at *
  generalize shortL m.es.length = s0 at *
  generalize enAt m.es = E at *
  generalize m.es.length = n at *
  have w1 : IntKind.u64.wrap (n : Int) = n := wrap_u64_nat _ (by omega)
  unfold maxLen at f2
  obtain ⟨A, hA⟩ : ∃ A, w.alloc (.cells #[I m.kd, I m.fr, I m.to, L m.tm, L m.pi, L m.pt, .slice a1 n c1, L m.cm, .bool m.ok, mv, dv] 41) = A := ⟨_, rfl⟩
  have hq0 : A.heap[w.heap.size]? = some (.cells #[I m.kd, I m.fr, I m.to, L m.tm, L m.pi, L m.pt, .slice a1 n c1, L m.cm, .bool m.ok, mv, dv] 41 (0, 0)) := by rw [← hA]; exact heap_alloc_new w _
  have hz0 : w.heap.size < A.heap.size := by rw [← hA]; simp [go_sem]
  have hk0 : Ex w A := by rw [← hA]; exact ex_alloc (ex_refl _) _
  replace hA := Lib.hid hA
  clear hq0
  go_enter Tryd.func65, Tryd.ntmps65
  go_wp2_with (go_at_call 12; (with_reducible refine (HS.out _).mono ?_); rintro e w2 ⟨u1, rfl, hS, X8, rfl⟩; (try simp only [wx_wx, wx_drew] at hS))
  rw [hA.out] at hS ⊢
  clear hA
  go_loopw [5, 6, 56] (fun b l i W => ∃ k : Nat, k ≤ n ∧ i = I k ∧ l = L (tk k) ∧ Hid (OwnL W A.heap.size b (pre k)) ∧ Hid (Ex A W)) (fun _ _ i _ => n - (intOf i).toNat)
  case atStart =>
    refine ⟨0, by omega, rfl, by rw [HT0.out], Lib.hid ?_, Lib.hid (by (try show Ex _ _); repeat (first | (with_reducible exact ex_refl _) | (with_reducible assumption) | (with_reducible refine ex_drewL ?_) | (with_reducible refine ex_appR ?_ _) | (with_reducible refine ex_wx ?_ _) | (with_reducible refine ex_drew ?_) | (with_reducible refine ex_alloc ?_ _)))⟩
    rw [HP0.out]; exact owns_low hS (by simp [go_sem])
  case round =>
    obtain ⟨k, hk, rfl, rfl, hO, hAr⟩ := hrel
    by_cases hlt : k < n
    · obtain ⟨g, off, da, dc, rfl, r1, c0, c1', c2', hd⟩ := HE.out _ (ex_trans hk0 hAr.out) k hlt
      have hz3 := ex_size hAr.out
      have hPk := Lib.hid (HP1.out k hlt)
      have hTk := Lib.hid (HT1.out k hlt)
      have hBk := Lib.hid (HB.out k hk)
      have hDk := Lib.hid (HDl.out k hlt)
      clear HE HP1 HB HP0 HS hS HDl HT0 HT1
      generalize E k = e at *
      generalize tk k = lk at *
      obtain ⟨et, ek, ed⟩ := e
      simp only at c0 c1' c2' hd
      have HDt := Lib.hid (fun W (k : Ex wr W) => hd.ex k)
      clear hd
      go_wp2
      obtain ⟨W5, hW5⟩ : ∃ W5, wr.alloc (.cells #[.int .u64 (ln et), .int .i64 ek, .slice da ed.length dc] 60) = W5 := ⟨_, rfl⟩
      have hq5 : W5.heap[wr.heap.size]? = some (.cells #[.int .u64 (ln et), .int .i64 ek, .slice da ed.length dc] 60 (0, 0)) := by rw [← hW5]; exact heap_alloc_new wr _
      have hz5 : wr.heap.size < W5.heap.size := (Array.getElem?_eq_some_iff.1 hq5).1
      have hk5 : Ex wr W5 := by rw [← hW5]; exact ex_alloc (ex_refl _) _
      rw [hW5]
      clear hW5
      obtain ⟨o0, _⟩ := block_cell (o := 0) hq5 rfl
      obtain ⟨o1, _⟩ := block_cell (o := 1) hq5 rfl
      obtain ⟨o2, _⟩ := block_cell (o := 2) hq5 rfl
      simp only [List.getElem_toArray, List.getElem_cons_zero, List.getElem_cons_succ] at o0 o1 o2
      clear hq5
      have hsub : IntKind.u64.wrap (ln et - ln lk) = ((et - lk).toNat : Int) := by
        rw [IntKind.wrap_u64]
        have h1 := et.toNat_lt
        have h2 := lk.toNat_lt
        show ((et.toNat : Int) - lk.toNat) % 18446744073709551616 = _
        rw [UInt64.toNat_sub]
        omega
      have HS1 := Lib.hid (fun w' => refshort_any (et - lk).toNat w' (u64_toNat _))
      have l1 := shortL_len (u64_toNat (et - lk))
      have HBb := Lib.hid (bn_byteI ek)
      have hO5 := Lib.hid (hO.out.ex hk5)
      have hdl : ed.length ≤ 1024 := hDk.out
      have HSd := Lib.hid (fun w' => refshort_any ed.length w' (by omega))
      have l2 := shortL_len (x := ed.length) (by omega)
      have w2 : IntKind.u64.wrap (ed.length : Int) = ed.length := wrap_u64_nat _ (by omega)
      have HEn : Hid (entL lk (et, ek, ed) = shortL (et - lk).toNat ++ (byteI ek :: (shortL ed.length ++ ed))) := Lib.hid rfl
      generalize shortL (et - lk).toNat = s1 at *
      generalize shortL ed.length = s2 at *
      generalize hel : ed.length = el at *
      replace hel := Lib.hid hel
      generalize (et - lk).toNat = dn at *
      refine wp_region_fork (W5) (.look 0 (.look 1 (.look 2 (.look 3 (.look 4 (.look 7 (.look 8 (.look 9 (.fork 5 (.fork 6 (.eff 10 (.eff 11 (.look 12 .done))) 10 (.eff 6 (.eff 11 (.look 12 .done)))) 10 (.eff 5 (.eff 6 (.eff 11 (.look 12 .done))))))))))))) (by (try show Ex _ _); repeat (first | (with_reducible exact ex_refl _) | (with_reducible assumption) | (with_reducible refine ex_drewL ?_) | (with_reducible refine ex_appR ?_ _) | (with_reducible refine ex_wx ?_ _) | (with_reducible refine ex_drew ?_) | (with_reducible refine ex_alloc ?_ _))) (by kernel_rfl) (by kernel_rfl) (fun _ _ d _ _ h => by cases d <;> exact h) ?_
      simp only [Fk.ops, nth]
      repeat (first | ((with_reducible refine wpFork_look ?_); go_big_quiet_step (fail); (try (with_reducible refine wpQuiet_nil ?_))) | (with_reducible refine wpFork_eff ?_) | ((with_reducible refine effT_F ?_ ?_); (focus rfl); go_simp) | ((with_reducible refine effT_T ?_ ?_); (focus rfl); (try dsimp only); go_wp2_with (first | (go_at_call 12; (with_reducible refine (HS1.out _).mono ?_); rintro e w2 ⟨u1, rfl, hS, X8, rfl⟩; (try simp only [wx_wx, wx_drew] at hS)) | (go_at_call 48; (with_reducible refine (both_any _ _ _ _ _ (hO5.out.slt.ex (by (try show Ex _ _); repeat (first | (with_reducible exact ex_refl _) | (with_reducible assumption) | (with_reducible refine ex_drewL ?_) | (with_reducible refine ex_appR ?_ _) | (with_reducible refine ex_wx ?_ _) | (with_reducible refine ex_drew ?_) | (with_reducible refine ex_alloc ?_ _)))) (hS.slt.ex (by (try show Ex _ _); repeat (first | (with_reducible exact ex_refl _) | (with_reducible assumption) | (with_reducible refine ex_drewL ?_) | (with_reducible refine ex_appR ?_ _) | (with_reducible refine ex_wx ?_ _) | (with_reducible refine ex_drew ?_) | (with_reducible refine ex_alloc ?_ _)))) (by have := hBk.out; omega)).mono ?_); rintro e w2 ⟨u3, rfl, hO6, X9, rfl⟩; (try simp only [wx_wx, wx_drew] at hO6)) | (at_builtin; refine wpAppT (Z := W5.heap.size) _ _ rfl rfl (owns_low (OwnL.ex hO6 (by (try show Ex _ _); repeat (first | (with_reducible exact ex_refl _) | (with_reducible assumption) | (with_reducible refine ex_drewL ?_) | (with_reducible refine ex_appR ?_ _) | (with_reducible refine ex_wx ?_ _) | (with_reducible refine ex_drew ?_) | (with_reducible refine ex_alloc ?_ _)))) (by simp [go_sem] <;> omega)) rfl rfl (sls_one (byteI ek) (by (try show Ex _ _); repeat (first | (with_reducible exact ex_refl _) | (with_reducible assumption) | (with_reducible refine ex_drewL ?_) | (with_reducible refine ex_appR ?_ _) | (with_reducible refine ex_wx ?_ _) | (with_reducible refine ex_drew ?_) | (with_reducible refine ex_alloc ?_ _))) (by first | rfl | (simp [go_sem]; done) | omega) HBb.out.symm).slt (by have := hBk.out; simp; omega) (ex_size (w := W5) (by (try show Ex _ _); repeat (first | (with_reducible exact ex_refl _) | (with_reducible assumption) | (with_reducible refine ex_drewL ?_) | (with_reducible refine ex_appR ?_ _) | (with_reducible refine ex_wx ?_ _) | (with_reducible refine ex_drew ?_) | (with_reducible refine ex_alloc ?_ _)))) (fun v1 w3 hO7 hA7 => ?_); obtain ⟨X7, rfl⟩ := hA7.ex (A := W5) (by (try show Ex _ _); repeat (first | (with_reducible exact ex_refl _) | (with_reducible assumption) | (with_reducible refine ex_drewL ?_) | (with_reducible refine ex_appR ?_ _) | (with_reducible refine ex_wx ?_ _) | (with_reducible refine ex_drew ?_) | (with_reducible refine ex_alloc ?_ _))) (owns_low (OwnL.ex hO6 (by (try show Ex _ _); repeat (first | (with_reducible exact ex_refl _) | (with_reducible assumption) | (with_reducible refine ex_drewL ?_) | (with_reducible refine ex_appR ?_ _) | (with_reducible refine ex_wx ?_ _) | (with_reducible refine ex_drew ?_) | (with_reducible refine ex_alloc ?_ _)))) (by simp [go_sem] <;> omega)); clear hO6 hA7)); refine mixQ_mk (by (try show Ex _ _); repeat (first | (with_reducible exact ex_refl _) | (with_reducible assumption) | (with_reducible refine ex_drewL ?_) | (with_reducible refine ex_appR ?_ _) | (with_reducible refine ex_wx ?_ _) | (with_reducible refine ex_drew ?_) | (with_reducible refine ex_alloc ?_ _))) ?_))
      all_goals (try (with_reducible refine wpFork_fork ?_ ?_))
      all_goals repeat (first | ((with_reducible refine wpFork_look ?_); go_big_quiet_step (fail); (try (with_reducible refine wpQuiet_nil ?_))) | (with_reducible refine wpFork_eff ?_) | ((with_reducible refine effT_F ?_ ?_); (focus rfl); go_simp) | ((with_reducible refine effT_T ?_ ?_); (focus rfl); (try dsimp only); go_wp2_with (first | (go_at_call 12; (with_reducible refine (HS1.out _).mono ?_); rintro e w2 ⟨u1, rfl, hS, X8, rfl⟩; (try simp only [wx_wx, wx_drew] at hS)) | (go_at_call 48; (with_reducible refine (both_any _ _ _ _ _ (hO5.out.slt.ex (by (try show Ex _ _); repeat (first | (with_reducible exact ex_refl _) | (with_reducible assumption) | (with_reducible refine ex_drewL ?_) | (with_reducible refine ex_appR ?_ _) | (with_reducible refine ex_wx ?_ _) | (with_reducible refine ex_drew ?_) | (with_reducible refine ex_alloc ?_ _)))) (hS.slt.ex (by (try show Ex _ _); repeat (first | (with_reducible exact ex_refl _) | (with_reducible assumption) | (with_reducible refine ex_drewL ?_) | (with_reducible refine ex_appR ?_ _) | (with_reducible refine ex_wx ?_ _) | (with_reducible refine ex_drew ?_) | (with_reducible refine ex_alloc ?_ _)))) (by have := hBk.out; omega)).mono ?_); rintro e w2 ⟨u3, rfl, hO6, X9, rfl⟩; (try simp only [wx_wx, wx_drew] at hO6)) | (at_builtin; refine wpAppT (Z := W5.heap.size) _ _ rfl rfl (owns_low (OwnL.ex hO6 (by (try show Ex _ _); repeat (first | (with_reducible exact ex_refl _) | (with_reducible assumption) | (with_reducible refine ex_drewL ?_) | (with_reducible refine ex_appR ?_ _) | (with_reducible refine ex_wx ?_ _) | (with_reducible refine ex_drew ?_) | (with_reducible refine ex_alloc ?_ _)))) (by simp [go_sem] <;> omega)) rfl rfl (sls_one (byteI ek) (by (try show Ex _ _); repeat (first | (with_reducible exact ex_refl _) | (with_reducible assumption) | (with_reducible refine ex_drewL ?_) | (with_reducible refine ex_appR ?_ _) | (with_reducible refine ex_wx ?_ _) | (with_reducible refine ex_drew ?_) | (with_reducible refine ex_alloc ?_ _))) (by first | rfl | (simp [go_sem]; done) | omega) HBb.out.symm).slt (by have := hBk.out; simp; omega) (ex_size (w := W5) (by (try show Ex _ _); repeat (first | (with_reducible exact ex_refl _) | (with_reducible assumption) | (with_reducible refine ex_drewL ?_) | (with_reducible refine ex_appR ?_ _) | (with_reducible refine ex_wx ?_ _) | (with_reducible refine ex_drew ?_) | (with_reducible refine ex_alloc ?_ _)))) (fun v1 w3 hO7 hA7 => ?_); obtain ⟨X7, rfl⟩ := hA7.ex (A := W5) (by (try show Ex _ _); repeat (first | (with_reducible exact ex_refl _) | (with_reducible assumption) | (with_reducible refine ex_drewL ?_) | (with_reducible refine ex_appR ?_ _) | (with_reducible refine ex_wx ?_ _) | (with_reducible refine ex_drew ?_) | (with_reducible refine ex_alloc ?_ _))) (owns_low (OwnL.ex hO6 (by (try show Ex _ _); repeat (first | (with_reducible exact ex_refl _) | (with_reducible assumption) | (with_reducible refine ex_drewL ?_) | (with_reducible refine ex_appR ?_ _) | (with_reducible refine ex_wx ?_ _) | (with_reducible refine ex_drew ?_) | (with_reducible refine ex_alloc ?_ _)))) (by simp [go_sem] <;> omega)); clear hO6 hA7)); refine mixQ_mk (by (try show Ex _ _); repeat (first | (with_reducible exact ex_refl _) | (with_reducible assumption) | (with_reducible refine ex_drewL ?_) | (with_reducible refine ex_appR ?_ _) | (with_reducible refine ex_wx ?_ _) | (with_reducible refine ex_drew ?_) | (with_reducible refine ex_alloc ?_ _))) ?_))
      all_goals (try (with_reducible refine wpFork_fork ?_ ?_))
      all_goals repeat (first | ((with_reducible refine wpFork_look ?_); go_big_quiet_step (fail); (try (with_reducible refine wpQuiet_nil ?_))) | (with_reducible refine wpFork_eff ?_) | ((with_reducible refine effT_F ?_ ?_); (focus rfl); go_simp) | ((with_reducible refine effT_T ?_ ?_); (focus rfl); (try dsimp only); go_wp2_with (first | (go_at_call 12; (with_reducible refine (HS1.out _).mono ?_); rintro e w2 ⟨u1, rfl, hS, X8, rfl⟩; (try simp only [wx_wx, wx_drew] at hS)) | (go_at_call 48; (with_reducible refine (both_any _ _ _ _ _ (hO5.out.slt.ex (by (try show Ex _ _); repeat (first | (with_reducible exact ex_refl _) | (with_reducible assumption) | (with_reducible refine ex_drewL ?_) | (with_reducible refine ex_appR ?_ _) | (with_reducible refine ex_wx ?_ _) | (with_reducible refine ex_drew ?_) | (with_reducible refine ex_alloc ?_ _)))) (hS.slt.ex (by (try show Ex _ _); repeat (first | (with_reducible exact ex_refl _) | (with_reducible assumption) | (with_reducible refine ex_drewL ?_) | (with_reducible refine ex_appR ?_ _) | (with_reducible refine ex_wx ?_ _) | (with_reducible refine ex_drew ?_) | (with_reducible refine ex_alloc ?_ _)))) (by have := hBk.out; omega)).mono ?_); rintro e w2 ⟨u3, rfl, hO6, X9, rfl⟩; (try simp only [wx_wx, wx_drew] at hO6)) | (at_builtin; refine wpAppT (Z := W5.heap.size) _ _ rfl rfl (owns_low (OwnL.ex hO6 (by (try show Ex _ _); repeat (first | (with_reducible exact ex_refl _) | (with_reducible assumption) | (with_reducible refine ex_drewL ?_) | (with_reducible refine ex_appR ?_ _) | (with_reducible refine ex_wx ?_ _) | (with_reducible refine ex_drew ?_) | (with_reducible refine ex_alloc ?_ _)))) (by simp [go_sem] <;> omega)) rfl rfl (sls_one (byteI ek) (by (try show Ex _ _); repeat (first | (with_reducible exact ex_refl _) | (with_reducible assumption) | (with_reducible refine ex_drewL ?_) | (with_reducible refine ex_appR ?_ _) | (with_reducible refine ex_wx ?_ _) | (with_reducible refine ex_drew ?_) | (with_reducible refine ex_alloc ?_ _))) (by first | rfl | (simp [go_sem]; done) | omega) HBb.out.symm).slt (by have := hBk.out; simp; omega) (ex_size (w := W5) (by (try show Ex _ _); repeat (first | (with_reducible exact ex_refl _) | (with_reducible assumption) | (with_reducible refine ex_drewL ?_) | (with_reducible refine ex_appR ?_ _) | (with_reducible refine ex_wx ?_ _) | (with_reducible refine ex_drew ?_) | (with_reducible refine ex_alloc ?_ _)))) (fun v1 w3 hO7 hA7 => ?_); obtain ⟨X7, rfl⟩ := hA7.ex (A := W5) (by (try show Ex _ _); repeat (first | (with_reducible exact ex_refl _) | (with_reducible assumption) | (with_reducible refine ex_drewL ?_) | (with_reducible refine ex_appR ?_ _) | (with_reducible refine ex_wx ?_ _) | (with_reducible refine ex_drew ?_) | (with_reducible refine ex_alloc ?_ _))) (owns_low (OwnL.ex hO6 (by (try show Ex _ _); repeat (first | (with_reducible exact ex_refl _) | (with_reducible assumption) | (with_reducible refine ex_drewL ?_) | (with_reducible refine ex_appR ?_ _) | (with_reducible refine ex_wx ?_ _) | (with_reducible refine ex_drew ?_) | (with_reducible refine ex_alloc ?_ _)))) (by simp [go_sem] <;> omega)); clear hO6 hA7)); refine mixQ_mk (by (try show Ex _ _); repeat (first | (with_reducible exact ex_refl _) | (with_reducible assumption) | (with_reducible refine ex_drewL ?_) | (with_reducible refine ex_appR ?_ _) | (with_reducible refine ex_wx ?_ _) | (with_reducible refine ex_drew ?_) | (with_reducible refine ex_alloc ?_ _))) ?_))
      all_goals (with_reducible refine wpFork_nil ?_)
      all_goals
        skip
        go_wp2
        refine wp_region_fork (W5) (.look 0 (.look 1 (.look 2 (.look 3 (.look 4 (.look 7 (.look 8 (.eff 5 (.eff 6 (.eff 9 (.look 10 .done))))))))))) (by (try show Ex _ _); repeat (first | (with_reducible exact ex_refl _) | (with_reducible assumption) | (with_reducible refine ex_drewL ?_) | (with_reducible refine ex_appR ?_ _) | (with_reducible refine ex_wx ?_ _) | (with_reducible refine ex_drew ?_) | (with_reducible refine ex_alloc ?_ _))) (by kernel_rfl) (by kernel_rfl) (fun _ _ d _ _ h => by cases d <;> exact h) ?_
        simp only [Fk.ops, nth]
        repeat (first | ((with_reducible refine wpFork_look ?_); go_big_quiet_step (fail); (try (with_reducible refine wpQuiet_nil ?_))) | (with_reducible refine wpFork_eff ?_) | ((with_reducible refine effT_F ?_ ?_); (focus rfl); go_simp) | ((with_reducible refine effT_T ?_ ?_); (focus rfl); (try dsimp only); go_wp2_with (first | (go_at_call 12; (with_reducible refine (HSd.out _).mono ?_); rintro e w2 ⟨u1, rfl, hT, X8, rfl⟩; (try simp only [wx_wx, wx_drew] at hT)) | (go_at_call 48; (with_reducible refine (both_any _ _ _ _ _ (hO7.slt.ex (by (try show Ex _ _); repeat (first | (with_reducible exact ex_refl _) | (with_reducible assumption) | (with_reducible refine ex_drewL ?_) | (with_reducible refine ex_appR ?_ _) | (with_reducible refine ex_wx ?_ _) | (with_reducible refine ex_drew ?_) | (with_reducible refine ex_alloc ?_ _)))) (hT.slt.ex (by (try show Ex _ _); repeat (first | (with_reducible exact ex_refl _) | (with_reducible assumption) | (with_reducible refine ex_drewL ?_) | (with_reducible refine ex_appR ?_ _) | (with_reducible refine ex_wx ?_ _) | (with_reducible refine ex_drew ?_) | (with_reducible refine ex_alloc ?_ _)))) (by have := hBk.out; simp; omega)).mono ?_); rintro e w2 ⟨u3, rfl, hO8, X9, rfl⟩; (try simp only [wx_wx, wx_drew] at hO8); clear hO7) | (go_at_call 48; (with_reducible refine (both_any _ _ _ _ _ (hO8.slt.ex (by (try show Ex _ _); repeat (first | (with_reducible exact ex_refl _) | (with_reducible assumption) | (with_reducible refine ex_drewL ?_) | (with_reducible refine ex_appR ?_ _) | (with_reducible refine ex_wx ?_ _) | (with_reducible refine ex_drew ?_) | (with_reducible refine ex_alloc ?_ _)))) (HDt.out _ (ex_trans hk5 (by (try show Ex _ _); repeat (first | (with_reducible exact ex_refl _) | (with_reducible assumption) | (with_reducible refine ex_drewL ?_) | (with_reducible refine ex_appR ?_ _) | (with_reducible refine ex_wx ?_ _) | (with_reducible refine ex_drew ?_) | (with_reducible refine ex_alloc ?_ _))))) (by have := hBk.out; have := hel.out; simp; omega)).mono ?_); rintro e w2 ⟨u4, rfl, hO9, X9, rfl⟩; (try simp only [wx_wx, wx_drew] at hO9))); refine mixQ_mk (by (try show Ex _ _); repeat (first | (with_reducible exact ex_refl _) | (with_reducible assumption) | (with_reducible refine ex_drewL ?_) | (with_reducible refine ex_appR ?_ _) | (with_reducible refine ex_wx ?_ _) | (with_reducible refine ex_drew ?_) | (with_reducible refine ex_alloc ?_ _))) ?_))
        all_goals (with_reducible refine wpFork_nil ?_)
        all_goals
          go_wp2
          refine ⟨⟨k + 1, by omega, by go_num, by rw [hTk.out], Lib.hid ?_, Lib.hid (ex_trans hAr.out (ex_trans hk5 (by (try show Ex _ _); repeat (first | (with_reducible exact ex_refl _) | (with_reducible assumption) | (with_reducible refine ex_drewL ?_) | (with_reducible refine ex_appR ?_ _) | (with_reducible refine ex_wx ?_ _) | (with_reducible refine ex_drew ?_) | (with_reducible refine ex_alloc ?_ _)))))⟩, by simp [intOf]; omega⟩
          rw [hPk.out, HEn.out]
          have := owns_low hO9 (Z' := A.heap.size) (by simp [go_sem] <;> omega)
          simpa [OwnL, List.append_assoc] using this
    · obtain rfl : k = n := by omega
      clear hlt hk HE HP1 HB HP0 HS hS HDl HT0 HT1
      go_wp2
      go_ret
      exact ⟨_, rfl, by rw [← HPn.out]; exact owns_low hO.out (Nat.le_of_lt hz0), ex_trans hk0 hAr.out⟩
end Go.Proofs.YtpcfkjeikhehaaaDoor
