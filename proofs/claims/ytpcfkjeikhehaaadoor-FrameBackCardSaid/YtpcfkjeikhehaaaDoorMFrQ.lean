import Derived.Test.YtpcfkjeikhehaaaDoorMFrP

/- Lists of entries and of members, as bytes. -/
set_option linter.unusedSimpArgs false
set_option linter.unusedVariables false
set_option maxRecDepth 20000
namespace Go.Proofs.YtpcfkjeikhehaaaDoor
open Go.RowKit
theorem lastT_cons (t : UInt64) (e : En) (l : List En) : lastT t (e :: l) = lastT e.1 l := by
  unfold lastT
  cases l with
  | nil => rfl
  | cons a l =>
    rw [List.getLast?_cons_cons]
    cases h9 : (a :: l).getLast? with
    | none => simp at h9
    | some x => rfl
theorem ents_snoc : ∀ (l : List En) (t : UInt64) (e : En), entsL t (l ++ [e]) = entsL t l ++ entL (lastT t l) e
  | [], t, e => by simp [entsL, lastT]
  | a :: l, t, e => by
    rw [List.cons_append]
    show entL t a ++ entsL a.1 (l ++ [e]) = entL t a ++ entsL a.1 l ++ entL (lastT t (a :: l)) e
    rw [ents_snoc l a.1 e, lastT_cons, List.append_assoc]
theorem take_en {l : List En} {k : Nat} (h : k < l.length) : l.take (k + 1) = l.take k ++ [enAt l k] := by
  rw [List.take_add_one, enAt_get h]; rfl
theorem lastT_snoc (t : UInt64) (l : List En) (e : En) : lastT t (l ++ [e]) = e.1 := by unfold lastT; simp
set_option maxHeartbeats 2000000 in
theorem listE_any {A : World} (l : List UInt8) (t : UInt64) (es : List En) (v ev : Value) (p : Nat) (w : World) (hA : Ex A w) (hown : OwnL w A.heap.size v l) (hs : SlG A ev es)
    (hp : w.heap[p]? = some (.cells #[L t] 25 (0, 0))) (hpA : A.heap.size ≤ p) (hne : v.ownBlock ≠ some p) (hn : es.length ≤ 1000) (hb : ∀ k, k ≤ es.length → (l ++ shortL es.length ++ entsL t (es.take k)).length ≤ 900000) (hd : ∀ i, i < es.length → (enAt es i).2.2.length ≤ 90000) :
    Calls Tryd.prog 56 #[v, ev, .func (.func 57) #[] #[.pointer (some ⟨p, 0, none⟩)]] w fun e' w' => ∃ v', e' = .returned v' ∧ OwnL w' A.heap.size v' (l ++ (shortL es.length ++ entsL t es)) ∧ Ex A w' := by
  have hz := ex_size hA
  have hps : p < w.heap.size := (Array.getElem?_eq_some_iff.1 hp).1
  obtain ⟨a, cc, rfl, hc, hcm, _, hs2⟩ := hs.out
  have HE : Hid (∀ W, Ex A W → ∀ i, i < es.length → ∃ g off da dc, a = some ⟨g, off, none⟩ ∧ g < A.heap.size ∧ W.cell? ⟨g, off + i * 3, none⟩ = some (L (enAt es i).1) ∧ W.cell? ⟨g, off + i * 3 + 1, none⟩ = some (I (enAt es i).2.1) ∧
    W.cell? ⟨g, off + i * 3 + 2, none⟩ = some (.slice da (enAt es i).2.2.length dc) ∧ SlT A (.slice da (enAt es i).2.2.length dc) (enAt es i).2.2) := Lib.hid fun W k i hi => by
      obtain ⟨g, off, da, dc, h1, h2, h3, h4, h5, h6⟩ := hs2.row hi
      obtain ⟨X, rfl⟩ := k
      exact ⟨g, off, da, dc, h1, h2, by rw [wx_cell _ _ _ h2]; exact h3, by rw [wx_cell _ _ _ h2]; exact h4, by rw [wx_cell _ _ _ h2]; exact h5, h6⟩
  obtain ⟨tk, htk⟩ : ∃ tk : Nat → UInt64, tk = fun k => lastT t (es.take k) := ⟨_, rfl⟩
  obtain ⟨pre, hpre⟩ : ∃ pre : Nat → List UInt8, pre = fun k => entsL t (es.take k) := ⟨_, rfl⟩
  have HT0 : Hid (tk 0 = t) := Lib.hid (by subst htk; rfl)
  have HT1 : Hid (∀ k, k < es.length → tk (k + 1) = (enAt es k).1) := Lib.hid fun k hk => by subst htk; simp only [take_en hk, lastT_snoc]
  have HP0 : Hid (pre 0 = []) := Lib.hid (by subst hpre; rfl)
  have HP1 : Hid (∀ k, k < es.length → pre (k + 1) = pre k ++ entL (tk k) (enAt es k)) := Lib.hid fun k hk => by subst hpre htk; simp only [take_en hk, ents_snoc]
  have HPn : Hid (pre es.length = entsL t es) := Lib.hid (by subst hpre; simp)
  have HB : Hid (∀ k, k ≤ es.length → (l ++ shortL es.length ++ pre k).length ≤ 900000) := Lib.hid (by subst hpre; exact hb)
  have HDl : Hid (∀ i, i < es.length → (enAt es i).2.2.length ≤ 90000) := Lib.hid hd
  have HS := Lib.hid (fun w' => short_any es.length w' (by omega))
  have hsl := shortL_len (x := es.length) (by omega)
  have hl0 : l.length ≤ 900000 := by have := hb 0 (by omega); simp at this; omega
  have HO := Lib.hid hown
  have HA := Lib.hid hA
  have HPp := Lib.hid hp
  clear htk hpre hb hd hown hp hs hs2
  generalize entsL t es = fin at *
  generalize enAt es = E at *
  generalize es.length = n at *
  have w1 : IntKind.u64.wrap (n : Int) = n := wrap_u64_nat _ (by omega)
  unfold maxLen at hcm
  go_enter Tryd.func56, Tryd.ntmps56
  go_wp2_with (first | (go_at_call 11; (with_reducible refine (HS.out _).mono ?_); rintro e w2 ⟨s, rfl, hS, k2⟩) | (at_builtin; refine wpAppT _ _ rfl rfl (HO.out.ex k2) rfl rfl hS.slt (by omega) (Nat.le_trans hz (ex_size k2)) (fun v1 w3 hO1 hA1 => ?_)))
  go_loopw [0, 17] (fun b i W => ∃ k : Nat, k ≤ n ∧ i = I k ∧ Hid (OwnL W A.heap.size b (l ++ shortL n ++ pre k)) ∧ Hid (Ex A W) ∧ Hid (W.heap[p]? = some (.cells #[L (tk k)] 25 (0, 0))) ∧ Hid (b.ownBlock ≠ some p)) (fun _ i _ => n - (intOf i).toNat)
  case atStart =>
    have hps2 : p < w2.heap.size := Nat.lt_of_lt_of_le hps (ex_size k2)
    refine ⟨0, by omega, rfl, Lib.hid ?_, Lib.hid (hA1.ex (ex_trans HA.out k2) (HO.out.ex k2)), Lib.hid ?_, Lib.hid ?_⟩
    · rw [HP0.out, List.append_nil]; exact hO1
    · rw [HT0.out, hA1.block p hps2 hne]; exact ex_block k2 HPp.out
    · rcases hA1.own with e | ⟨g, e, hg⟩
      · show v1.ownBlock ≠ some p
        rw [e]; exact hne
      · show v1.ownBlock ≠ some p
        rw [e]; intro h9; have := Option.some.inj h9; omega
  case round =>
    obtain ⟨k, hk, rfl, hO, hAr, hpr, hnr⟩ := hrel
    by_cases hlt : k < n
    · obtain ⟨g, off, da, dc, rfl, r1, c0, c1, c2, hdat⟩ := HE.out _ hAr.out k hlt
      have hz3 := ex_size hAr.out
      have hgr : g < wr.heap.size := by omega
      have hT := HT1.out k hlt
      have hPk := Lib.hid (HP1.out k hlt)
      have hBk := Lib.hid (HB.out k hk)
      have hdl := HDl.out k hlt
      clear HE HT1 HP1 HB HDl HT0 HP0 HS hA1 hO1 HO HPp
      generalize E k = e at *
      generalize tk k = tkk at *
      go_wp2_with (go_at_call 57; (with_reducible refine (plain1_any (A := A) (l ++ shortL n ++ pre k) tkk e u0 _ p _ (ex_trans hAr.out (by (try show Ex _ _); repeat (first | (with_reducible exact ex_refl _) | (with_reducible assumption) | (with_reducible refine ex_drewL ?_) | (with_reducible refine ex_appR ?_ _) | (with_reducible refine ex_wx ?_ _) | (with_reducible refine ex_drew ?_) | (with_reducible refine ex_alloc ?_ _)))) (hO.out.ex (by (try show Ex _ _); repeat (first | (with_reducible exact ex_refl _) | (with_reducible assumption) | (with_reducible refine ex_drewL ?_) | (with_reducible refine ex_appR ?_ _) | (with_reducible refine ex_wx ?_ _) | (with_reducible refine ex_drew ?_) | (with_reducible refine ex_alloc ?_ _)))) hdat (ex_block (by (try show Ex _ _); repeat (first | (with_reducible exact ex_refl _) | (with_reducible assumption) | (with_reducible refine ex_drewL ?_) | (with_reducible refine ex_appR ?_ _) | (with_reducible refine ex_wx ?_ _) | (with_reducible refine ex_drew ?_) | (with_reducible refine ex_alloc ?_ _))) hpr.out) hpA hnr.out hBk.out hdl).mono ?_); rintro e' w4 ⟨v', rfl, q1, q2, q3, q4⟩)
      refine ⟨⟨k + 1, by omega, by go_num, Lib.hid ?_, Lib.hid q2, Lib.hid ?_, Lib.hid q4⟩, by simp [intOf]; omega⟩
      · rw [hPk.out, ← List.append_assoc]; exact q1
      · rw [hT]; exact q3
    · obtain rfl : k = n := by omega
      clear hlt hk HE HT1 HP1 HB HDl HT0 HP0 HS hA1 hO1 HO HPp
      go_wp2
      go_ret
      refine ⟨_, rfl, ?_, hAr.out⟩
      rw [← HPn.out, ← List.append_assoc]
      exact hO.out
theorem plain2_any {A : World} (l : List UInt8) (n : Int) (v : Value) (w : World) (hA : Ex A w) (hown : OwnL w A.heap.size v l) (hl : l.length ≤ 900000) :
    Calls Tryd.prog 60 #[v, I n] w fun e' w' => ∃ v', e' = .returned v' ∧ OwnL w' A.heap.size v' (l ++ [byteI n]) ∧ Ex A w' := by
  have hz := ex_size hA
  have HB := Lib.hid (bn_byteI n)
  have HO := Lib.hid hown
  clear hown
  go_enter Tryd.func60, Tryd.ntmps60
  go_wp2_with (at_builtin; refine wpAppT _ _ rfl rfl (HO.out.ex (by (try show Ex _ _); repeat (first | (with_reducible exact ex_refl _) | (with_reducible assumption) | (with_reducible refine ex_drewL ?_) | (with_reducible refine ex_appR ?_ _) | (with_reducible refine ex_wx ?_ _) | (with_reducible refine ex_drew ?_) | (with_reducible refine ex_alloc ?_ _)))) rfl rfl (sls_one (byteI n) (by (try show Ex _ _); repeat (first | (with_reducible exact ex_refl _) | (with_reducible assumption) | (with_reducible refine ex_drewL ?_) | (with_reducible refine ex_appR ?_ _) | (with_reducible refine ex_wx ?_ _) | (with_reducible refine ex_drew ?_) | (with_reducible refine ex_alloc ?_ _))) (by first | rfl | omega) HB.out.symm).slt (by simp; omega) (Nat.le_trans hz (ex_size (by (try show Ex _ _); repeat (first | (with_reducible exact ex_refl _) | (with_reducible assumption) | (with_reducible refine ex_drewL ?_) | (with_reducible refine ex_appR ?_ _) | (with_reducible refine ex_wx ?_ _) | (with_reducible refine ex_drew ?_) | (with_reducible refine ex_alloc ?_ _))))) (fun v1 w3 hO1 hA1 => ?_))
  go_ret
  exact ⟨v1, rfl, hO1, hA1.ex (ex_trans hA (by (try show Ex _ _); repeat (first | (with_reducible exact ex_refl _) | (with_reducible assumption) | (with_reducible refine ex_drewL ?_) | (with_reducible refine ex_appR ?_ _) | (with_reducible refine ex_wx ?_ _) | (with_reducible refine ex_drew ?_) | (with_reducible refine ex_alloc ?_ _)))) (HO.out.ex (by (try show Ex _ _); repeat (first | (with_reducible exact ex_refl _) | (with_reducible assumption) | (with_reducible refine ex_drewL ?_) | (with_reducible refine ex_appR ?_ _) | (with_reducible refine ex_wx ?_ _) | (with_reducible refine ex_drew ?_) | (with_reducible refine ex_alloc ?_ _))))⟩
theorem take_in {l : List Int} {k : Nat} (h : k < l.length) : l.take (k + 1) = l.take k ++ [inAt l k] := by
  rw [List.take_add_one, inAt_get h]; rfl
set_option maxHeartbeats 2000000 in
theorem listI_any {A : World} (l : List UInt8) (ns : List Int) (v nv : Value) (w : World) (hA : Ex A w) (hown : OwnL w A.heap.size v l) (hs : SlZ A nv ns) (hn : ns.length ≤ 1000) (hl : l.length ≤ 800000) :
    Calls Tryd.prog 59 #[v, nv, .func (.func 60) #[] #[]] w fun e' w' => ∃ v', e' = .returned v' ∧ OwnL w' A.heap.size v' (l ++ (shortL ns.length ++ ns.map byteI)) ∧ Ex A w' := by
  have hz := ex_size hA
  obtain ⟨a, cc, rfl, hc, hcm, _, hs2⟩ := hs.out
  have HE : Hid (∀ W, Ex A W → ∀ i, i < ns.length → ∃ g off, a = some ⟨g, off, none⟩ ∧ g < A.heap.size ∧ W.cell? ⟨g, off + i, none⟩ = some (I (inAt ns i))) := Lib.hid fun W k i hi => by
      obtain ⟨g, off, h1, h2, h3⟩ := hs2.row hi
      obtain ⟨X, rfl⟩ := k
      exact ⟨g, off, h1, h2, by rw [wx_cell _ _ _ h2]; exact h3⟩
  obtain ⟨pre, hpre⟩ : ∃ pre : Nat → List UInt8, pre = fun k => (ns.take k).map byteI := ⟨_, rfl⟩
  have HP0 : Hid (pre 0 = []) := Lib.hid (by subst hpre; rfl)
  have HP1 : Hid (∀ k, k < ns.length → pre (k + 1) = pre k ++ [byteI (inAt ns k)]) := Lib.hid fun k hk => by subst hpre; simp only [take_in hk, List.map_append, List.map_cons, List.map_nil]
  have HPn : Hid (pre ns.length = ns.map byteI) := Lib.hid (by subst hpre; simp)
  have HB : Hid (∀ k, k ≤ ns.length → (l ++ shortL ns.length ++ pre k).length ≤ 900000) := Lib.hid fun k hk => by
    subst hpre
    have := shortL_len (x := ns.length) (by omega)
    simp; omega
  have HS := Lib.hid (fun w' => short_any ns.length w' (by omega))
  have hsl := shortL_len (x := ns.length) (by omega)
  have HO := Lib.hid hown
  have HA := Lib.hid hA
  clear hpre hown hs hs2
  generalize ns.map byteI = fin at *
  generalize inAt ns = E at *
  generalize ns.length = n at *
  have w1 : IntKind.u64.wrap (n : Int) = n := wrap_u64_nat _ (by omega)
  unfold maxLen at hcm
  go_enter Tryd.func59, Tryd.ntmps59
  go_wp2_with (first | (go_at_call 11; (with_reducible refine (HS.out _).mono ?_); rintro e w2 ⟨s, rfl, hS, k2⟩) | (at_builtin; refine wpAppT _ _ rfl rfl (HO.out.ex k2) rfl rfl hS.slt (by omega) (Nat.le_trans hz (ex_size k2)) (fun v1 w3 hO1 hA1 => ?_)))
  go_loopw [0, 17] (fun b i W => ∃ k : Nat, k ≤ n ∧ i = I k ∧ Hid (OwnL W A.heap.size b (l ++ shortL n ++ pre k)) ∧ Hid (Ex A W)) (fun _ i _ => n - (intOf i).toNat)
  case atStart =>
    refine ⟨0, by omega, rfl, Lib.hid ?_, Lib.hid (hA1.ex (ex_trans HA.out k2) (HO.out.ex k2))⟩
    rw [HP0.out, List.append_nil]; exact hO1
  case round =>
    obtain ⟨k, hk, rfl, hO, hAr⟩ := hrel
    by_cases hlt : k < n
    · obtain ⟨g, off, rfl, r1, c0⟩ := HE.out _ hAr.out k hlt
      have hz3 := ex_size hAr.out
      have hgr : g < wr.heap.size := by omega
      have hPk := Lib.hid (HP1.out k hlt)
      have hBk := Lib.hid (HB.out k hk)
      clear HE HP1 HB HP0 HS hA1 hO1 HO
      generalize E k = e at *
      go_wp2_with (go_at_call 60; (with_reducible refine (plain2_any (A := A) (l ++ shortL n ++ pre k) e u0 _ (ex_trans hAr.out (by (try show Ex _ _); repeat (first | (with_reducible exact ex_refl _) | (with_reducible assumption) | (with_reducible refine ex_drewL ?_) | (with_reducible refine ex_appR ?_ _) | (with_reducible refine ex_wx ?_ _) | (with_reducible refine ex_drew ?_) | (with_reducible refine ex_alloc ?_ _)))) (hO.out.ex (by (try show Ex _ _); repeat (first | (with_reducible exact ex_refl _) | (with_reducible assumption) | (with_reducible refine ex_drewL ?_) | (with_reducible refine ex_appR ?_ _) | (with_reducible refine ex_wx ?_ _) | (with_reducible refine ex_drew ?_) | (with_reducible refine ex_alloc ?_ _)))) hBk.out).mono ?_); rintro e' w4 ⟨v', rfl, q1, q2⟩)
      refine ⟨⟨k + 1, by omega, by go_num, Lib.hid ?_, Lib.hid q2⟩, by simp [intOf]; omega⟩
      rw [hPk.out, ← List.append_assoc]; exact q1
    · obtain rfl : k = n := by omega
      clear hlt hk HE HP1 HB HP0 HS hA1 hO1 HO
      go_wp2
      go_ret
      refine ⟨_, rfl, ?_, hAr.out⟩
      rw [← HPn.out, ← List.append_assoc]
      exact hO.out
end Go.Proofs.YtpcfkjeikhehaaaDoor
