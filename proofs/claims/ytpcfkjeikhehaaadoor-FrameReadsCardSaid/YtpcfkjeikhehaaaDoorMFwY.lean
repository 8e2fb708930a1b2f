import Derived.Test.YtpcfkjeikhehaaaDoorMFwT
import Derived.Test.YtpcfkjeikhehaaaDoorMRdX
import Derived.Test.YtpcfkjeikhehaaaDoorMRdP

/- The document's field of entries. -/
set_option linter.unusedSimpArgs false
set_option linter.unusedVariables false
set_option maxRecDepth 20000
namespace Go.Proofs.YtpcfkjeikhehaaaDoor
open Go.RowKit
set_option maxHeartbeats 4000000 in
theorem field_e (m : Ms) (v : Value) (w : World) (hs : MsV w v m) (hn : m.es.length ≤ 8) (hd : ∀ i, i < m.es.length → (enAt m.es i).2.2.length ≤ 1024) (hb : ∀ k, k ≤ m.es.length → (shortL m.es.length ++ entsL m.pt (m.es.take k)).length ≤ 100000) :
    Calls Tryd.prog 65 #[v, .int .u8 101] w (PostOw w (shortL m.es.length ++ entsL m.pt m.es)) := by
  obtain ⟨ev, mv, dv, rfl, h1, _, _⟩ := hs.out
  obtain ⟨a1, c1, rfl, f1, f2, f3, r1⟩ := h1.out
  have HE : Hid (∀ W, Ex w W → ∀ i, i < m.es.length → ∃ g off da dc, a1 = some ⟨g, off, none⟩ ∧ g < W.heap.size ∧ W.cell? ⟨g, off + i * 3, none⟩ = some (L (enAt m.es i).1) ∧ W.cell? ⟨g, off + i * 3 + 1, none⟩ = some (I (enAt m.es i).2.1) ∧
    W.cell? ⟨g, off + i * 3 + 2, none⟩ = some (.slice da (enAt m.es i).2.2.length dc) ∧ SlT W (.slice da (enAt m.es i).2.2.length dc) (enAt m.es i).2.2) := Lib.hid fun W k i hi => (r1.ex k).row hi
  clear hs h1 r1
  obtain ⟨tk, htk⟩ : ∃ tk : Nat → UInt64, tk = fun k => lastT m.pt (m.es.take k) := ⟨_, rfl⟩
  obtain ⟨pre, hpre⟩ : ∃ pre : Nat → List UInt8, pre = fun k => shortL m.es.length ++ entsL m.pt (m.es.take k) := ⟨_, rfl⟩
  have HT0 : Hid (tk 0 = m.pt) := Lib.hid (by subst htk; rfl)
  have HT1 : Hid (∀ k, k < m.es.length → tk (k + 1) = (enAt m.es k).1) := Lib.hid fun k hk => by subst htk; simp only [take_en hk, lastT_snoc]
  have HP0 : Hid (pre 0 = shortL m.es.length) := Lib.hid (by subst hpre; simp [entsL])
  have HP1 : Hid (∀ k, k < m.es.length → pre (k + 1) = pre k ++ entL (tk k) (enAt m.es k)) := Lib.hid fun k hk => by subst hpre htk; simp only [take_en hk, ents_snoc, List.append_assoc]
  have HPn : Hid (pre m.es.length = shortL m.es.length ++ entsL m.pt m.es) := Lib.hid (by subst hpre; simp)
  have HB : Hid (∀ k, k ≤ m.es.length → (pre k).length ≤ 100000) := Lib.hid (by subst hpre; exact hb)
  have HDl : Hid (∀ i, i < m.es.length → (enAt m.es i).2.2.length ≤ 1024) := Lib.hid hd
  have HS := Lib.hid (fun w' => refshort_any m.es.length w' (by omega))
  clear hpre htk hb hd
  generalize shortL m.es.length ++ entsL m.pt m.es = fin at *
  generalize shortL m.es.length = s0 at *
  generalize enAt m.es = E at *
  generalize m.es.length = n at *
  have w1 : IntKind.u64.wrap (n : Int) = n := wrap_u64_nat _ (by omega)
  unfold maxLen at f2
  obtain ⟨A, hA⟩ : ∃ A, w.alloc (.cells #[I m.kd, I m.fr, I m.to, L m.tm, L m.pi, L m.pt, .slice a1 n c1, L m.cm, .bool m.ok, mv, dv] 41) = A := ⟨_, rfl⟩
  have hq0 : A.heap[w.heap.size]? = some (.cells #[I m.kd, I m.fr, I m.to, L m.tm, L m.pi, L m.pt, .slice a1 n c1, L m.cm, .bool m.ok, mv, dv] 41 (0, 0)) := by rw [← hA]; exact heap_alloc_new w _
  have hz0 : w.heap.size < A.heap.size := by rw [← hA]; simp [go_sem]
  have hk0 : Ex w A := by rw [← hA]; exact ex_alloc (ex_refl _) _
  replace hA := Lib.hid hA
  clear hq0
  go_enter Tryd.func65, Tryd.ntmps65
  go_wp2_with (go_at_call 12; (with_reducible refine (HS.out _).mono ?_); rintro e w2 ⟨u1, rfl, hS, X8, rfl⟩; (try simp only [wx_wx, wx_drew] at hS))
  rw [hA.out] at hS ⊢
  clear hA
  go_loopw [5, 6, 56] (fun b l i W => ∃ k : Nat, k ≤ n ∧ i = I k ∧ l = L (tk k) ∧ Hid (OwnL W A.heap.size b (pre k)) ∧ Hid (Ex A W)) (fun _ _ i _ => n - (intOf i).toNat)
  case atStart =>
    refine ⟨0, by omega, rfl, by rw [HT0.out], Lib.hid ?_, Lib.hid (by (try show Ex _ _); repeat (first | (with_reducible exact ex_refl _) | (with_reducible assumption) | (with_reducible refine ex_drewL ?_) | (with_reducible refine ex_appR ?_ _) | (with_reducible refine ex_wx ?_ _) | (with_reducible refine ex_drew ?_) | (with_reducible refine ex_alloc ?_ _)))⟩
    rw [HP0.out]; exact owns_low hS (by simp [go_sem])
  case round =>
    obtain ⟨k, hk, rfl, rfl, hO, hAr⟩ := hrel
    by_cases hlt : k < n
    · obtain ⟨g, off, da, dc, rfl, r1, c0, c1', c2', hd⟩ := HE.out _ (ex_trans hk0 hAr.out) k hlt
      have hz3 := ex_size hAr.out
      have hPk := Lib.hid (HP1.out k hlt)
      have hTk := Lib.hid (HT1.out k hlt)
      have hBk := Lib.hid (HB.out k hk)
      have hDk := Lib.hid (HDl.out k hlt)
      clear HE HP1 HB HP0 HS hS HDl HT0 HT1
      generalize E k = e at *
      generalize tk k = lk at *
      obtain ⟨et, ek, ed⟩ := e
      simp only at c0 c1' c2' hd
      have HDt := Lib.hid (fun W (k : Ex wr W) => hd.ex k)
      clear hd
      go_wp2
      obtain ⟨W5, hW5⟩ : ∃ W5, wr.alloc (.cells #[.int .u64 (ln et), .int .i64 ek, .slice da ed.length dc] 60) = W5 := ⟨_, rfl⟩
      have hq5 : W5.heap[wr.heap.size]? = some (.cells #[.int .u64 (ln et), .int .i64 ek, .slice da ed.length dc] 60 (0, 0)) := by rw [← hW5]; exact heap_alloc_new wr _
      have hz5 : wr.heap.size < W5.heap.size := (Array.getElem?_eq_some_iff.1 hq5).1
      have hk5 : Ex wr W5 := by rw [← hW5]; exact ex_alloc (ex_refl _) _
      rw [hW5]
      clear hW5
      obtain ⟨o0, _⟩ := block_cell (o := 0) hq5 rfl
      obtain ⟨o1, _⟩ := block_cell (o := 1) hq5 rfl
      obtain ⟨o2, _⟩ := block_cell (o := 2) hq5 rfl
      simp only [List.getElem_toArray, List.getElem_cons_zero, List.getElem_cons_succ] at o0 o1 o2
      clear hq5
      have hsub : IntKind.u64.wrap (ln et - ln lk) = ((et - lk).toNat : Int) := by
        rw [IntKind.wrap_u64]
        have h1 := et.toNat_lt
        have h2 := lk.toNat_lt
        show ((et.toNat : Int) - lk.toNat) % 18446744073709551616 = _
        rw [UInt64.toNat_sub]
        omega
      have HS1 := Lib.hid (fun w' => refshort_any (et - lk).toNat w' (u64_toNat _))
      have l1 := shortL_len (u64_toNat (et - lk))
      have HBb := Lib.hid (bn_byteI ek)
      have hO5 := Lib.hid (hO.out.ex hk5)
      have hdl : ed.length ≤ 1024 := hDk.out
      have HSd := Lib.hid (fun w' => refshort_any ed.length w' (by omega))
      have l2 := shortL_len (x := ed.length) (by omega)
      have w2 : IntKind.u64.wrap (ed.length : Int) = ed.length := wrap_u64_nat _ (by omega)
      have HEn : Hid (entL lk (et, ek, ed) = shortL (et - lk).toNat ++ (byteI ek :: (shortL ed.length ++ ed))) := Lib.hid rfl
      generalize shortL (et - lk).toNat = s1 at *
      generalize shortL ed.length = s2 at *
      generalize hel : ed.length = el at *
      replace hel := Lib.hid hel
      generalize (et - lk).toNat = dn at *
      refine wp_region_fork (W5) (.look 0 (.look 1 (.look 2 (.look 3 (.look 4 (.look 7 (.look 8 (.look 9 (.fork 5 (.fork 6 (.eff 10 (.eff 11 (.look 12 .done))) 10 (.eff 6 (.eff 11 (.look 12 .done)))) 10 (.eff 5 (.eff 6 (.eff 11 (.look 12 .done))))))))))))) (by (try show Ex _ _); repeat (first | (with_reducible exact ex_refl _) | (with_reducible assumption) | (with_reducible refine ex_drewL ?_) | (with_reducible refine ex_appR ?_ _) | (with_reducible refine ex_wx ?_ _) | (with_reducible refine ex_drew ?_) | (with_reducible refine ex_alloc ?_ _))) (by kernel_rfl) (by kernel_rfl) (fun _ _ d _ _ h => by cases d <;> exact h) ?_
      simp only [Fk.ops, nth]
      repeat (first | ((with_reducible refine wpFork_look ?_); go_big_quiet_step (fail); (try (with_reducible refine wpQuiet_nil ?_))) | (with_reducible refine wpFork_eff ?_) | ((with_reducible refine effT_F ?_ ?_); (focus rfl); go_simp) | ((with_reducible refine effT_T ?_ ?_); (focus rfl); (try dsimp only); go_wp2_with (first | (go_at_call 12; (with_reducible refine (HS1.out _).mono ?_); rintro e w2 ⟨u1, rfl, hS, X8, rfl⟩; (try simp only [wx_wx, wx_drew] at hS)) | (go_at_call 48; (with_reducible refine (both_any _ _ _ _ _ (hO5.out.slt.ex (by (try show Ex _ _); repeat (first | (with_reducible exact ex_refl _) | (with_reducible assumption) | (with_reducible refine ex_drewL ?_) | (with_reducible refine ex_appR ?_ _) | (with_reducible refine ex_wx ?_ _) | (with_reducible refine ex_drew ?_) | (with_reducible refine ex_alloc ?_ _)))) (hS.slt.ex (by (try show Ex _ _); repeat (first | (with_reducible exact ex_refl _) | (with_reducible assumption) | (with_reducible refine ex_drewL ?_) | (with_reducible refine ex_appR ?_ _) | (with_reducible refine ex_wx ?_ _) | (with_reducible refine ex_drew ?_) | (with_reducible refine ex_alloc ?_ _)))) (by have := hBk.out; omega)).mono ?_); rintro e w2 ⟨u3, rfl, hO6, X9, rfl⟩; (try simp only [wx_wx, wx_drew] at hO6)) | (at_builtin; refine wpAppT (Z := W5.heap.size) _ _ rfl rfl (owns_low (OwnL.ex hO6 (by (try show Ex _ _); repeat (first | (with_reducible exact ex_refl _) | (with_reducible assumption) | (with_reducible refine ex_drewL ?_) | (with_reducible refine ex_appR ?_ _) | (with_reducible refine ex_wx ?_ _) | (with_reducible refine ex_drew ?_) | (with_reducible refine ex_alloc ?_ _)))) (by simp [go_sem] <;> omega)) rfl rfl (sls_one (byteI ek) (by (try show Ex _ _); repeat (first | (with_reducible exact ex_refl _) | (with_reducible assumption) | (with_reducible refine ex_drewL ?_) | (with_reducible refine ex_appR ?_ _) | (with_reducible refine ex_wx ?_ _) | (with_reducible refine ex_drew ?_) | (with_reducible refine ex_alloc ?_ _))) (by first | rfl | (simp [go_sem]; done) | omega) HBb.out.symm).slt (by have := hBk.out; simp; omega) (ex_size (w := W5) (by (try show Ex _ _); repeat (first | (with_reducible exact ex_refl _) | (with_reducible assumption) | (with_reducible refine ex_drewL ?_) | (with_reducible refine ex_appR ?_ _) | (with_reducible refine ex_wx ?_ _) | (with_reducible refine ex_drew ?_) | (with_reducible refine ex_alloc ?_ _)))) (fun v1 w3 hO7 hA7 => ?_); obtain ⟨X7, rfl⟩ := hA7.ex (A := W5) (by (try show Ex _ _); repeat (first | (with_reducible exact ex_refl _) | (with_reducible assumption) | (with_reducible refine ex_drewL ?_) | (with_reducible refine ex_appR ?_ _) | (with_reducible refine ex_wx ?_ _) | (with_reducible refine ex_drew ?_) | (with_reducible refine ex_alloc ?_ _))) (owns_low (OwnL.ex hO6 (by (try show Ex _ _); repeat (first | (with_reducible exact ex_refl _) | (with_reducible assumption) | (with_reducible refine ex_drewL ?_) | (with_reducible refine ex_appR ?_ _) | (with_reducible refine ex_wx ?_ _) | (with_reducible refine ex_drew ?_) | (with_reducible refine ex_alloc ?_ _)))) (by simp [go_sem] <;> omega)); clear hO6 hA7)); refine mixQ_mk (by (try show Ex _ _); repeat (first | (with_reducible exact ex_refl _) | (with_reducible assumption) | (with_reducible refine ex_drewL ?_) | (with_reducible refine ex_appR ?_ _) | (with_reducible refine ex_wx ?_ _) | (with_reducible refine ex_drew ?_) | (with_reducible refine ex_alloc ?_ _))) ?_))
      all_goals (try (with_reducible refine wpFork_fork ?_ ?_))
      all_goals repeat (first | ((with_reducible refine wpFork_look ?_); go_big_quiet_step (fail); (try (with_reducible refine wpQuiet_nil ?_))) | (with_reducible refine wpFork_eff ?_) | ((with_reducible refine effT_F ?_ ?_); (focus rfl); go_simp) | ((with_reducible refine effT_T ?_ ?_); (focus rfl); (try dsimp only); go_wp2_with (first | (go_at_call 12; (with_reducible refine (HS1.out _).mono ?_); rintro e w2 ⟨u1, rfl, hS, X8, rfl⟩; (try simp only [wx_wx, wx_drew] at hS)) | (go_at_call 48; (with_reducible refine (both_any _ _ _ _ _ (hO5.out.slt.ex (by (try show Ex _ _); repeat (first | (with_reducible exact ex_refl _) | (with_reducible assumption) | (with_reducible refine ex_drewL ?_) | (with_reducible refine ex_appR ?_ _) | (with_reducible refine ex_wx ?_ _) | (with_reducible refine ex_drew ?_) | (with_reducible refine ex_alloc ?_ _)))) (hS.slt.ex (by (try show Ex _ _); repeat (first | (with_reducible exact ex_refl _) | (with_reducible assumption) | (with_reducible refine ex_drewL ?_) | (with_reducible refine ex_appR ?_ _) | (with_reducible refine ex_wx ?_ _) | (with_reducible refine ex_drew ?_) | (with_reducible refine ex_alloc ?_ _)))) (by have := hBk.out; omega)).mono ?_); rintro e w2 ⟨u3, rfl, hO6, X9, rfl⟩; (try simp only [wx_wx, wx_drew] at hO6)) | (at_builtin; refine wpAppT (Z := W5.heap.size) _ _ rfl rfl (owns_low (OwnL.ex hO6 (by (try show Ex _ _); repeat (first | (with_reducible exact ex_refl _) | (with_reducible assumption) | (with_reducible refine ex_drewL ?_) | (with_reducible refine ex_appR ?_ _) | (with_reducible refine ex_wx ?_ _) | (with_reducible refine ex_drew ?_) | (with_reducible refine ex_alloc ?_ _)))) (by simp [go_sem] <;> omega)) rfl rfl (sls_one (byteI ek) (by (try show Ex _ _); repeat (first | (with_reducible exact ex_refl _) | (with_reducible assumption) | (with_reducible refine ex_drewL ?_) | (with_reducible refine ex_appR ?_ _) | (with_reducible refine ex_wx ?_ _) | (with_reducible refine ex_drew ?_) | (with_reducible refine ex_alloc ?_ _))) (by first | rfl | (simp [go_sem]; done) | omega) HBb.out.symm).slt (by have := hBk.out; simp; omega) (ex_size (w := W5) (by (try show Ex _ _); repeat (first | (with_reducible exact ex_refl _) | (with_reducible assumption) | (with_reducible refine ex_drewL ?_) | (with_reducible refine ex_appR ?_ _) | (with_reducible refine ex_wx ?_ _) | (with_reducible refine ex_drew ?_) | (with_reducible refine ex_alloc ?_ _)))) (fun v1 w3 hO7 hA7 => ?_); obtain ⟨X7, rfl⟩ := hA7.ex (A := W5) (by (try show Ex _ _); repeat (first | (with_reducible exact ex_refl _) | (with_reducible assumption) | (with_reducible refine ex_drewL ?_) | (with_reducible refine ex_appR ?_ _) | (with_reducible refine ex_wx ?_ _) | (with_reducible refine ex_drew ?_) | (with_reducible refine ex_alloc ?_ _))) (owns_low (OwnL.ex hO6 (by (try show Ex _ _); repeat (first | (with_reducible exact ex_refl _) | (with_reducible assumption) | (with_reducible refine ex_drewL ?_) | (with_reducible refine ex_appR ?_ _) | (with_reducible refine ex_wx ?_ _) | (with_reducible refine ex_drew ?_) | (with_reducible refine ex_alloc ?_ _)))) (by simp [go_sem] <;> omega)); clear hO6 hA7)); refine mixQ_mk (by (try show Ex _ _); repeat (first | (with_reducible exact ex_refl _) | (with_reducible assumption) | (with_reducible refine ex_drewL ?_) | (with_reducible refine ex_appR ?_ _) | (with_reducible refine ex_wx ?_ _) | (with_reducible refine ex_drew ?_) | (with_reducible refine ex_alloc ?_ _))) ?_))
      all_goals (try (with_reducible refine wpFork_fork ?_ ?_))
      all_goals repeat (first | ((with_reducible refine wpFork_look ?_); go_big_quiet_step (fail); (try (with_reducible refine wpQuiet_nil ?_))) | (with_reducible refine wpFork_eff ?_) | ((with_reducible refine effT_F ?_ ?_); (focus rfl); go_simp) | ((with_reducible refine effT_T ?_ ?_); (focus rfl); (try dsimp only); go_wp2_with (first | (go_at_call 12; (with_reducible refine (HS1.out _).mono ?_); rintro e w2 ⟨u1, rfl, hS, X8, rfl⟩; (try simp only [wx_wx, wx_drew] at hS)) | (go_at_call 48; (with_reducible refine (both_any _ _ _ _ _ (hO5.out.slt.ex (by (try show Ex _ _); repeat (first | (with_reducible exact ex_refl _) | (with_reducible assumption) | (with_reducible refine ex_drewL ?_) | (with_reducible refine ex_appR ?_ _) | (with_reducible refine ex_wx ?_ _) | (with_reducible refine ex_drew ?_) | (with_reducible refine ex_alloc ?_ _)))) (hS.slt.ex (by (try show Ex _ _); repeat (first | (with_reducible exact ex_refl _) | (with_reducible assumption) | (with_reducible refine ex_drewL ?_) | (with_reducible refine ex_appR ?_ _) | (with_reducible refine ex_wx ?_ _) | (with_reducible refine ex_drew ?_) | (with_reducible refine ex_alloc ?_ _)))) (by have := hBk.out; omega)).mono ?_); rintro e w2 ⟨u3, rfl, hO6, X9, rfl⟩; (try simp only [wx_wx, wx_drew] at hO6)) | (at_builtin; refine wpAppT (Z := W5.heap.size) _ _ rfl rfl (owns_low (OwnL.ex hO6 (by (try show Ex _ _); repeat (first | (with_reducible exact ex_refl _) | (with_reducible assumption) | (with_reducible refine ex_drewL ?_) | (with_reducible refine ex_appR ?_ _) | (with_reducible refine ex_wx ?_ _) | (with_reducible refine ex_drew ?_) | (with_reducible refine ex_alloc ?_ _)))) (by simp [go_sem] <;> omega)) rfl rfl (sls_one (byteI ek) (by (try show Ex _ _); repeat (first | (with_reducible exact ex_refl _) | (with_reducible assumption) | (with_reducible refine ex_drewL ?_) | (with_reducible refine ex_appR ?_ _) | (with_reducible refine ex_wx ?_ _) | (with_reducible refine ex_drew ?_) | (with_reducible refine ex_alloc ?_ _))) (by first | rfl | (simp [go_sem]; done) | omega) HBb.out.symm).slt (by have := hBk.out; simp; omega) (ex_size (w := W5) (by (try show Ex _ _); repeat (first | (with_reducible exact ex_refl _) | (with_reducible assumption) | (with_reducible refine ex_drewL ?_) | (with_reducible refine ex_appR ?_ _) | (with_reducible refine ex_wx ?_ _) | (with_reducible refine ex_drew ?_) | (with_reducible refine ex_alloc ?_ _)))) (fun v1 w3 hO7 hA7 => ?_); obtain ⟨X7, rfl⟩ := hA7.ex (A := W5) (by (try show Ex _ _); repeat (first | (with_reducible exact ex_refl _) | (with_reducible assumption) | (with_reducible refine ex_drewL ?_) | (with_reducible refine ex_appR ?_ _) | (with_reducible refine ex_wx ?_ _) | (with_reducible refine ex_drew ?_) | (with_reducible refine ex_alloc ?_ _))) (owns_low (OwnL.ex hO6 (by (try show Ex _ _); repeat (first | (with_reducible exact ex_refl _) | (with_reducible assumption) | (with_reducible refine ex_drewL ?_) | (with_reducible refine ex_appR ?_ _) | (with_reducible refine ex_wx ?_ _) | (with_reducible refine ex_drew ?_) | (with_reducible refine ex_alloc ?_ _)))) (by simp [go_sem] <;> omega)); clear hO6 hA7)); refine mixQ_mk (by (try show Ex _ _); repeat (first | (with_reducible exact ex_refl _) | (with_reducible assumption) | (with_reducible refine ex_drewL ?_) | (with_reducible refine ex_appR ?_ _) | (with_reducible refine ex_wx ?_ _) | (with_reducible refine ex_drew ?_) | (with_reducible refine ex_alloc ?_ _))) ?_))
      all_goals (with_reducible refine wpFork_nil ?_)
      all_goals
        skip
        go_wp2
        refine wp_region_fork (W5) (.look 0 (.look 1 (.look 2 (.look 3 (.look 4 (.look 7 (.look 8 (.eff 5 (.eff 6 (.eff 9 (.look 10 .done))))))))))) (by (try show Ex _ _); repeat (first | (with_reducible exact ex_refl _) | (with_reducible assumption) | (with_reducible refine ex_drewL ?_) | (with_reducible refine ex_appR ?_ _) | (with_reducible refine ex_wx ?_ _) | (with_reducible refine ex_drew ?_) | (with_reducible refine ex_alloc ?_ _))) (by kernel_rfl) (by kernel_rfl) (fun _ _ d _ _ h => by cases d <;> exact h) ?_
        simp only [Fk.ops, nth]
        repeat (first | ((with_reducible refine wpFork_look ?_); go_big_quiet_step (fail); (try (with_reducible refine wpQuiet_nil ?_))) | (with_reducible refine wpFork_eff ?_) | ((with_reducible refine effT_F ?_ ?_); (focus rfl); go_simp) | ((with_reducible refine effT_T ?_ ?_); (focus rfl); (try dsimp only); go_wp2_with (first | (go_at_call 12; (with_reducible refine (HSd.out _).mono ?_); rintro e w2 ⟨u1, rfl, hT, X8, rfl⟩; (try simp only [wx_wx, wx_drew] at hT)) | (go_at_call 48; (with_reducible refine (both_any _ _ _ _ _ (hO7.slt.ex (by (try show Ex _ _); repeat (first | (with_reducible exact ex_refl _) | (with_reducible assumption) | (with_reducible refine ex_drewL ?_) | (with_reducible refine ex_appR ?_ _) | (with_reducible refine ex_wx ?_ _) | (with_reducible refine ex_drew ?_) | (with_reducible refine ex_alloc ?_ _)))) (hT.slt.ex (by (try show Ex _ _); repeat (first | (with_reducible exact ex_refl _) | (with_reducible assumption) | (with_reducible refine ex_drewL ?_) | (with_reducible refine ex_appR ?_ _) | (with_reducible refine ex_wx ?_ _) | (with_reducible refine ex_drew ?_) | (with_reducible refine ex_alloc ?_ _)))) (by have := hBk.out; simp; omega)).mono ?_); rintro e w2 ⟨u3, rfl, hO8, X9, rfl⟩; (try simp only [wx_wx, wx_drew] at hO8); clear hO7) | (go_at_call 48; (with_reducible refine (both_any _ _ _ _ _ (hO8.slt.ex (by (try show Ex _ _); repeat (first | (with_reducible exact ex_refl _) | (with_reducible assumption) | (with_reducible refine ex_drewL ?_) | (with_reducible refine ex_appR ?_ _) | (with_reducible refine ex_wx ?_ _) | (with_reducible refine ex_drew ?_) | (with_reducible refine ex_alloc ?_ _)))) (HDt.out _ (ex_trans hk5 (by (try show Ex _ _); repeat (first | (with_reducible exact ex_refl _) | (with_reducible assumption) | (with_reducible refine ex_drewL ?_) | (with_reducible refine ex_appR ?_ _) | (with_reducible refine ex_wx ?_ _) | (with_reducible refine ex_drew ?_) | (with_reducible refine ex_alloc ?_ _))))) (by have := hBk.out; have := hel.out; simp; omega)).mono ?_); rintro e w2 ⟨u4, rfl, hO9, X9, rfl⟩; (try simp only [wx_wx, wx_drew] at hO9))); refine mixQ_mk (by (try show Ex _ _); repeat (first | (with_reducible exact ex_refl _) | (with_reducible assumption) | (with_reducible refine ex_drewL ?_) | (with_reducible refine ex_appR ?_ _) | (with_reducible refine ex_wx ?_ _) | (with_reducible refine ex_drew ?_) | (with_reducible refine ex_alloc ?_ _))) ?_))
        all_goals (with_reducible refine wpFork_nil ?_)
        all_goals
          go_wp2
          refine ⟨⟨k + 1, by omega, by go_num, by rw [hTk.out], Lib.hid ?_, Lib.hid (ex_trans hAr.out (ex_trans hk5 (by (try show Ex _ _); repeat (first | (with_reducible exact ex_refl _) | (with_reducible assumption) | (with_reducible refine ex_drewL ?_) | (with_reducible refine ex_appR ?_ _) | (with_reducible refine ex_wx ?_ _) | (with_reducible refine ex_drew ?_) | (with_reducible refine ex_alloc ?_ _)))))⟩, by simp [intOf]; omega⟩
          rw [hPk.out, HEn.out]
          have := owns_low hO9 (Z' := A.heap.size) (by simp [go_sem] <;> omega)
          simpa [OwnL, List.append_assoc] using this
    · obtain rfl : k = n := by omega
      clear hlt hk HE HP1 HB HP0 HS hS HDl HT0 HT1
      go_wp2
      go_ret
      exact ⟨_, rfl, by rw [← HPn.out]; exact owns_low hO.out (Nat.le_of_lt hz0), ex_trans hk0 hAr.out⟩
end Go.Proofs.YtpcfkjeikhehaaaDoor

/- The document's Plain: the plain law of its fields, and a field of whatever letter. -/
set_option linter.unusedSimpArgs false
set_option linter.unusedVariables false
set_option maxRecDepth 20000
namespace Go.Proofs.YtpcfkjeikhehaaaDoor
open Go.RowKit
def fieldB (m : Ms) (f : UInt8) : List UInt8 :=
  if f = 111 then [boolL m.ok] else if f = 112 then shortL m.pi.toNat ++ shortL m.pt.toNat else if f = 99 then shortL m.cm.toNat else if f = 101 then shortL m.es.length ++ entsL m.pt m.es
  else if f = 109 then shortL m.mb.length ++ m.mb.map byteI else shortL m.da.length ++ m.da
def headL (m : Ms) : List UInt8 := [byteI m.kd, byteI (16 * m.fr + m.to)] ++ shortL m.tm.toNat
theorem plain_fields {m : Ms} (h : 1 ≤ m.kd ∧ m.kd ≤ 5) : headL m ++ (fieldsL m.kd).flatMap (fieldB m) = plainM m := by
  obtain ⟨kd, fr, to, tm, pi, pt, es, cm, ok, mb, da⟩ := m
  simp only at h
  have h5 : kd = 1 ∨ kd = 2 ∨ kd = 3 ∨ kd = 4 ∨ kd = 5 := by omega
  rcases h5 with rfl | rfl | rfl | rfl | rfl <;> simp [headL, fieldsL, fieldB, plainM, optL, hasO, hasP, hasC, hasE, hasM, hasD, List.append_assoc]
theorem entsL_len : ∀ (l : List En) (t : UInt64), (∀ e, e ∈ l → e.2.2.length ≤ 1024) → (entsL t l).length ≤ l.length * 1045
  | [], _, _ => by simp [entsL]
  | e :: l, t, h => by
    have h1 := entsL_len l e.1 (fun x hx => h x (List.mem_cons_of_mem _ hx))
    have h2 := h e (List.mem_cons_self ..)
    have h3 := shortL_len (u64_toNat (e.1 - t))
    have h4 := shortL_len (x := e.2.2.length) (by omega)
    rw [entsL, List.length_append, List.length_cons]
    unfold entL
    simp only [List.length_append, List.length_cons]
    omega
theorem stand_len {l : List En} {t : UInt64} (h : standE l t = true) : ∀ i, i < l.length → (enAt l i).2.2.length ≤ 1024 := fun i hi => wellE_len ((stand_iff l t).1 h i hi).1
theorem field_any (m : Ms) (f : UInt8) (v : Value) (w : World) (hs : MsV w v m) (hr : rightM m = true) (hf : f ∈ fieldsL m.kd) :
    Calls Tryd.prog 65 #[v, B f] w (PostOw w (fieldB m f)) := by
  obtain ⟨⟨a1, a2⟩, zx, ⟨a3, a4, a5, a6⟩, a7, a8, a9, a10, a11⟩ := rightM_spec hr
  have hd := stand_len a11
  have hc : f = 111 ∨ f = 112 ∨ f = 99 ∨ f = 101 ∨ f = 109 ∨ f = 100 := by
    have h5 : m.kd = 1 ∨ m.kd = 2 ∨ m.kd = 3 ∨ m.kd = 4 ∨ m.kd = 5 := by omega
    have key : ∀ l : List UInt8, (∀ x, x ∈ l → x = 111 ∨ x = 112 ∨ x = 99 ∨ x = 101 ∨ x = 109 ∨ x = 100) → f ∈ l → f = 111 ∨ f = 112 ∨ f = 99 ∨ f = 101 ∨ f = 109 ∨ f = 100 := fun l hl hm => hl f hm
    refine key _ ?_ hf
    rcases h5 with h | h | h | h | h <;> (rw [h]; decide)
  rcases hc with rfl | rfl | rfl | rfl | rfl | rfl
  · exact field_o m v w hs
  · exact field_p m v w hs
  · exact field_c m v w hs
  · refine field_e m v w hs a7 hd fun k hk => ?_
    have h1 := shortL_len (x := m.es.length) (by omega)
    have h2 := entsL_len (m.es.take k) m.pt (fun e he => by
      obtain ⟨i, hi, rfl⟩ := List.mem_iff_getElem.1 (List.mem_of_mem_take he)
      have := hd i hi
      have h9 := enAt_get hi
      rw [List.getElem?_eq_getElem hi] at h9
      rw [Option.some.inj h9]; exact this)
    rw [List.length_take, Nat.min_eq_left hk] at h2
    rw [List.length_append]; omega
  · exact field_m m v w hs (by omega)
  · exact field_d m v w hs (by omega)
end Go.Proofs.YtpcfkjeikhehaaaDoor

/- What the document's taker takes of the bytes of a right message: the plain law. -/
set_option linter.unusedSimpArgs false
set_option linter.unusedVariables false
namespace Go.Proofs.YtpcfkjeikhehaaaDoor
theorem numD_short {x : Nat} (t : List UInt8) (hx : x < 18446744073709551616) : numD (shortL x ++ t) false = (x, t, false) := by
  unfold numD longN
  rw [long_short x t hx]
  simp
theorem rawD_app (d t : List UInt8) : rawD d.length (d ++ t) false = (d, t, false) := by
  unfold rawD
  rw [if_neg (by simp)]
  simp
theorem oneD_cons (c : UInt8) (t : List UInt8) : oneD (c :: t) false = (c, t, false) := by
  unfold oneD
  have := rawD_app [c] t
  rw [show [c] ++ t = c :: t from rfl, show [c].length = 1 from rfl] at this
  rw [this]
  rfl
theorem stepE_ent {u : UInt64} {e : En} (t : List UInt8) (he : wellE e = true) : stepE (u, entL u e ++ t, false) = (e, e.1, t, false) := by
  have hk := wellE_kind he
  have hd := wellE_len he
  unfold stepE entL
  simp only [List.append_assoc, List.cons_append]
  rw [numD_short _ (e.1 - u).toNat_lt]
  simp only
  rw [oneD_cons]
  simp only
  rw [numD_short _ (by omega)]
  simp only
  rw [rawD_app]
  obtain ⟨a, b, c⟩ := e
  simp only at hk ⊢
  rw [UInt64.ofNat_toNat, byteI_nat (by omega) (by omega)]
  have : u + (a - u) = a := by rw [UInt64.add_comm]; simp
  rw [this]
theorem seqE_ents : ∀ (es : List En) (u : UInt64) (t : List UInt8), standE es u = true → ∀ k, k ≤ es.length → (seqE (u, entsL u es ++ t, false) k).1 = es.take k ∧ (seqE (u, entsL u es ++ t, false) k).2.2.2 = false ∧
    (seqE (u, entsL u es ++ t, false) k).2.2.1 = entsL ((seqE (u, entsL u es ++ t, false) k).2.1) (es.drop k) ++ t ∧ standE (es.drop k) ((seqE (u, entsL u es ++ t, false) k).2.1) = true := by
  intro es u t hs k
  induction k with
  | zero => intro _; exact ⟨rfl, rfl, rfl, hs⟩
  | succ k ih =>
    intro hk
    obtain ⟨h1, h2, h3, h4⟩ := ih (by omega)
    rw [seqE]
    generalize seqE (u, entsL u es ++ t, false) k = s at *
    obtain ⟨bs, tt, rs, bd⟩ := s
    simp only at h1 h2 h3 h4
    subst h1 h2 h3
    have hdk : es.drop k = es[k] :: es.drop (k + 1) := List.drop_eq_getElem_cons (by omega)
    rw [hdk] at h4 ⊢
    simp only [standE, Bool.and_eq_true, decide_eq_true_eq] at h4
    simp only [entsL, List.append_assoc]
    rw [stepE_ent _ h4.1.1]
    refine ⟨?_, rfl, rfl, h4.2⟩
    rw [List.take_succ_eq_append_getElem (by omega)]
/-- What a letter's field does to a message, to what is left, to whether there was not what had to be. -/
def FRel (f : UInt8) (a b : Ms × List UInt8 × Bool) : Prop :=
  if f = 111 then b = ({ a.1 with ok := decide ((oneD a.2.1 a.2.2).1 = 1) }, (oneD a.2.1 a.2.2).2)
  else if f = 112 then b = ({ a.1 with pi := UInt64.ofNat (numD a.2.1 a.2.2).1, pt := UInt64.ofNat (numD (numD a.2.1 a.2.2).2.1 (numD a.2.1 a.2.2).2.2).1 }, (numD (numD a.2.1 a.2.2).2.1 (numD a.2.1 a.2.2).2.2).2)
  else if f = 99 then b = ({ a.1 with cm := UInt64.ofNat (numD a.2.1 a.2.2).1 }, (numD a.2.1 a.2.2).2)
  else if f = 101 then ∃ k, k ≤ (numD a.2.1 a.2.2).1 ∧ (k = (numD a.2.1 a.2.2).1 ∨ (seqE (a.1.pt, (numD a.2.1 a.2.2).2) k).2.2.2 = true) ∧ b = ({ a.1 with es := (seqE (a.1.pt, (numD a.2.1 a.2.2).2) k).1 }, (seqE (a.1.pt, (numD a.2.1 a.2.2).2) k).2.2)
  else if f = 109 then b = ({ a.1 with mb := bytesI (rawD (numD a.2.1 a.2.2).1 (numD a.2.1 a.2.2).2.1 (numD a.2.1 a.2.2).2.2).1 }, (rawD (numD a.2.1 a.2.2).1 (numD a.2.1 a.2.2).2.1 (numD a.2.1 a.2.2).2.2).2)
  else b = ({ a.1 with da := (rawD (numD a.2.1 a.2.2).1 (numD a.2.1 a.2.2).2.1 (numD a.2.1 a.2.2).2.2).1 }, (rawD (numD a.2.1 a.2.2).1 (numD a.2.1 a.2.2).2.1 (numD a.2.1 a.2.2).2.2).2)
/-- A field of M laid into a message. -/
def setF (M : Ms) (f : UInt8) (m : Ms) : Ms :=
  if f = 111 then { m with ok := M.ok } else if f = 112 then { m with pi := M.pi, pt := M.pt } else if f = 99 then { m with cm := M.cm } else if f = 101 then { m with es := M.es } else if f = 109 then { m with mb := M.mb } else { m with da := M.da }
theorem bytesI_byteI : ∀ (l : List Int), l.all (fun n => decide (1 ≤ n) && decide (n ≤ 255)) = true → bytesI (l.map byteI) = l
  | [], _ => rfl
  | a :: l, h => by
    simp only [List.all_cons, Bool.and_eq_true, decide_eq_true_eq] at h
    unfold bytesI at *
    have := bytesI_byteI l h.2
    unfold bytesI at this
    rw [List.map_cons, List.map_cons, this, byteI_nat (by omega) (by omega)]
theorem frel_good {M m : Ms} {f : UInt8} {t : List UInt8} {b : Ms × List UInt8 × Bool} (hM : rightM M = true) (hpt : f = 101 → m.pt = M.pt) (h : FRel f (m, fieldB M f ++ t, false) b) : b = (setF M f m, t, false) := by
  obtain ⟨⟨a1, a2⟩, zx, ⟨a3, a4, a5, a6⟩, a7, a8, a9, a10, a11⟩ := rightM_spec hM
  unfold FRel at h
  unfold fieldB at h
  unfold setF
  by_cases h1 : f = 111
  · subst h1
    simp only [if_true, List.cons_append, List.nil_append] at h ⊢
    rw [oneD_cons] at h
    rw [h, (boolL_one M.ok).1]
  · simp only [h1, if_false] at h ⊢
    by_cases h2 : f = 112
    · subst h2
      simp only [if_true, List.append_assoc] at h ⊢
      rw [numD_short _ M.pi.toNat_lt] at h
      simp only at h
      rw [numD_short _ M.pt.toNat_lt] at h
      rw [h, UInt64.ofNat_toNat, UInt64.ofNat_toNat]
    · simp only [h2, if_false] at h ⊢
      by_cases h3 : f = 99
      · subst h3
        simp only [if_true] at h ⊢
        rw [numD_short _ M.cm.toNat_lt] at h
        rw [h, UInt64.ofNat_toNat]
      · simp only [h3, if_false] at h ⊢
        by_cases h4 : f = 101
        · subst h4
          simp only [if_true, List.append_assoc] at h ⊢
          rw [numD_short _ (by omega)] at h
          simp only at h
          obtain ⟨k, k1, k2, rfl⟩ := h
          rw [hpt rfl] at k2 ⊢
          obtain ⟨e1, e2, e3, _⟩ := seqE_ents M.es M.pt t a11 k k1
          obtain rfl : k = M.es.length := by
            rcases k2 with k2 | k2
            · exact k2
            · rw [e2] at k2; cases k2
          rw [List.take_length] at e1
          rw [List.drop_length] at e3
          rw [e1]
          rw [show (seqE (M.pt, entsL M.pt M.es ++ t, false) M.es.length).2.2 = (t, false) from Prod.ext (by rw [e3]; rfl) e2]
        · simp only [h4, if_false] at h ⊢
          by_cases h5 : f = 109
          · subst h5
            simp only [if_true, List.append_assoc] at h ⊢
            rw [numD_short _ (by omega)] at h
            simp only at h
            have := rawD_app (M.mb.map byteI) t
            rw [List.length_map] at this
            rw [this] at h
            rw [h, bytesI_byteI _ a10]
          · simp only [h5, if_false, List.append_assoc] at h ⊢
            rw [numD_short _ (by omega)] at h
            simp only at h
            rw [rawD_app] at h
            rw [h]
end Go.Proofs.YtpcfkjeikhehaaaDoor
