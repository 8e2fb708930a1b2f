import Derived.Test.YtdohohafdplkiaaMDkJ

/- What one question does to a disk: crash and write. -/
set_option linter.unusedSimpArgs false
set_option linter.unusedVariables false
set_option maxRecDepth 20000
namespace Go.Proofs.Ytdohohafdplkiaa
open Go.RowKit
set_option maxHeartbeats 1000000 in
theorem of2_any {w : World} {L : Loc} {d : Dk} (h : DkAt w L d) (a : Ak) (kv : Value) (h0 : a.kind = 2) (hs : SlV1 KBo 1 w kv a.keep) :
    Calls Try.prog 14 #[AV a kv, PT L.p] w (PostRd w L (crashD d (a.keep.take 100), zeroB, 0)) := by
  unfold AV
  obtain ⟨kd, at', n, keep⟩ := a
  simp only at h0 hs ⊢
  subst h0
  obtain ⟨w2, hw2⟩ : ∃ w2, (w.alloc (.cells #[I 2, I at', I n, kv] 37)).alloc (.cells (rowB 64 fun _ => 0) 39) = w2 := ⟨_, rfl⟩
  have hs2 : w2.heap.size = w.heap.size + 2 := by rw [← hw2]; simp [go_sem]
  have hk2 : Ex w w2 := by rw [← hw2]; exact ex_alloc (ex_alloc (ex_refl _) _) _
  have hb2 : w2.heap[w.heap.size + 1]? = some (.cells (rowB 64 fun _ => 0) 39 (0, 0)) := by
    rw [← hw2]
    have := heap_alloc_new (w.alloc (.cells #[I 2, I at', I n, kv] 37)) (.cells (rowB 64 fun _ => 0) 39)
    simpa only [World.size_alloc] using this
  have hkv : kv.oneCell' = true := by obtain ⟨ka, kc, rfl, _⟩ := hs.out; rfl
  have HK := Lib.hid (keep_any ⟨2, at', n, keep⟩ kv w2 (hs.ex hk2))
  have HC : Hid (∀ v w3, OwnBo w3 w2.heap.size v (keep.take 100) → Ex w2 w3 → Calls Try.prog 18 #[PT L.p, v] w3 (PostD w3 L (crashD d (keep.take 100)) (I 0))) := Lib.hid fun v w3 hO k3 => by
    refine crash_any (h.ex (ex_trans hk2 k3)) v (keep.take 100) (SlV1.of_own KBo_len (by omega) hO) fun g hg => ⟨fun e => ?_, (World.ownsRow.lt hO g hg).2⟩
    have := h.lt e
    have := (World.ownsRow.lt hO g hg).1
    omega
  have HE := Lib.hid (fun w3 w4 L' (k3 : Ex w2 w3) => of_end (w2 := w3) (w3 := w4) (L' := L') (d' := crashD d (keep.take 100)) (ex_trans hk2 k3) (Nat.le_succ _) (ex_block k3 hb2) fun b hb => h.lt hb)
  have hrow := Lib.hid zeroB_row
  generalize crashD d (keep.take 100) = d' at *
  unfold AV at HK
  simp only at HK ⊢
  have Hw2 := Lib.hid hw2
  clear hw2 hb2 hk2 h hs2 hs
  go_enter Try.func14, Try.ntmps14
  go_wp2_with (first | (go_at_call 34; rw [Hw2.out]; (with_reducible refine HK.out.mono ?_); rintro e w3 ⟨v3, rfl, hO3, k3⟩; replace HC := Lib.hid (HC.out v3 w3 hO3 k3); replace HE := Lib.hid fun w4 L' => HE.out w3 w4 L' k3; clear hO3) | (go_at_call 18; (with_reducible refine HC.out.mono ?_); rintro e w4 ⟨L', rfl, hW, hD⟩; obtain ⟨b3, HX⟩ := HE.out w4 L' hW hD; obtain ⟨n3, f3⟩ := block_cells (n := 64) b3 (by simp); replace HX := Lib.hid (HX zeroB); replace hW := Lib.hid hW; replace hD := Lib.hid hD; replace b3 := Lib.hid b3))
  rw [hrow.out] at HX
  obtain ⟨x1, x2, x3⟩ := HX.out
  refine ret_rowV Try.results14 Try.underlying39 rfl info_blk rfl x1 rfl rfl ⟨L', ?_, x2, x3⟩
  rw [hrow.out]; rfl
set_option maxHeartbeats 1000000 in
theorem of6_any {w : World} {L : Loc} {d : Dk} (h : DkAt w L d) (a : Ak) (kv : Value) (h0 : ¬ a.kind = 0 ∧ ¬ a.kind = 1 ∧ ¬ a.kind = 2 ∧ ¬ a.kind = 3 ∧ ¬ a.kind = 4 ∧ ¬ a.kind = 5) (h1 : -9223372036854775808 ≤ a.at') (h2 : a.at' < 9223372036854775808) (hops : d.ops < 1000000000) (hq : d.qu.length < 1000000) (hkv : kv.oneCell' = true) :
    Calls Try.prog 14 #[AV a kv, PT L.p] w (PostRd w L ((writeD d a.at' (blockA a.n)).1, zeroB, (writeD d a.at' (blockA a.n)).2)) := by
  unfold AV
  obtain ⟨kd, at', n, keep⟩ := a
  simp only at h0 h1 h2 ⊢
  obtain ⟨e0, e1, e2, e3, e4, e5⟩ := h0
  obtain ⟨w2, hw2⟩ : ∃ w2, (w.alloc (.cells #[I kd, I at', I n, kv] 37)).alloc (.cells (rowB 64 fun _ => 0) 39) = w2 := ⟨_, rfl⟩
  have hs2 : w2.heap.size = w.heap.size + 2 := by rw [← hw2]; simp [go_sem]
  have hk2 : Ex w w2 := by rw [← hw2]; exact ex_alloc (ex_alloc (ex_refl _) _) _
  have hb2 : w2.heap[w.heap.size + 1]? = some (.cells (rowB 64 fun _ => 0) 39 (0, 0)) := by
    rw [← hw2]
    have := heap_alloc_new (w.alloc (.cells #[I kd, I at', I n, kv] 37)) (.cells (rowB 64 fun _ => 0) 39)
    simpa only [World.size_alloc] using this
  have HK := Lib.hid (fun W => block_any ⟨kd, at', n, keep⟩ kv W hkv)
  have HC := Lib.hid fun w3 (k3 : Ex w2 w3) => write_any (h.ex (ex_trans hk2 k3)) at' (blockA n) h1 h2 hops hq
  have HE := Lib.hid (fun w3 w4 L' (k3 : Ex w2 w3) => of_end (w2 := w3) (w3 := w4) (L' := L') (d' := (writeD d at' (blockA n)).1) (ex_trans hk2 k3) (Nat.le_succ _) (ex_block k3 hb2) fun b hb => h.lt hb)
  have hrow := Lib.hid zeroB_row
  obtain ⟨P, hP⟩ : ∃ P : Nat → Prop, P = fun k => L.own k ∨ k = w.heap.size + 1 := ⟨_, rfl⟩
  have p1 : ¬ P w.heap.size := by rw [hP]; rintro (e | e); exact absurd (h.lt e) (by omega); omega
  have S3 : Hid (∀ w3, Ex w2 w3 → ∀ k, k < w2.heap.size → ¬ P k → w3.heap[k]? = w2.heap[k]?) := Lib.hid fun w3 k3 k hk _ => (ex_below k3).block k hk
  have S4 : Hid (∀ w3 w4 L', Ex w2 w3 → Dv L w3 L' w4 → ∀ k, k < w2.heap.size → ¬ P k → w4.heap[k]? = w2.heap[k]?) := Lib.hid fun w3 w4 L' k3 hD k hk hn => (hD.same k (Nat.lt_of_lt_of_le hk (ex_size k3)) fun e => hn (by rw [hP]; exact Or.inl e)).trans ((ex_below k3).block k hk)
  have S5 : Hid (∀ w4 : World, (∀ k, k < w2.heap.size → ¬ P k → w4.heap[k]? = w2.heap[k]?) → ∀ vs, ∀ k, k < w2.heap.size → ¬ P k → (w4.setCells (w.heap.size + 1) 0 vs).heap[k]? = w2.heap[k]?) := Lib.hid fun w4 hs vs k hk hn => (setCells_heap _ _ _ _ _ fun e => hn (by rw [hP]; exact Or.inr e)).trans (hs k hk hn)
  have hra : w2.heap[w.heap.size]? = some (.cells #[I kd, I at', I n, kv] 37 (0, 0)) := by
    rw [← hw2]
    exact ex_block (ex_alloc (ex_refl _) _) (heap_alloc_new w _)
  have hc1 := cell_of_row w2 w.heap.size 1 _ _ _ hra
  have hcn : cellsN w2 w.heap.size 0 4 = some #[I kd, I at', I n, kv] := cellsN_some.2 ⟨rfl, fun j hj => by rw [Nat.zero_add]; exact cell_of_row w2 w.heap.size j _ _ _ hra⟩
  have hz0 : w.heap.size < w2.heap.size := by omega
  generalize writeD d at' (blockA n) = r at *
  obtain ⟨d', er⟩ := r
  unfold AV at HK
  simp only at HK HC HE hc1 ⊢
  have Hw2 := Lib.hid hw2
  clear hw2 hb2 hk2 h hs2 hP hra
  go_enter Try.func14, Try.ntmps14
  go_wp2
  rw [Hw2.out]
  refine wp_region_forkH (fun w' => ∃ X, w' = kp w2 P X) (.look 0 (.look 1 (.look 2 (.look 3 (.look 4 (.eff 5 (.eff 6 (.eff 7 (.look 8 .done))))))))) (⟨_, kp_of (fun _ _ _ => rfl)⟩) (by kernel_rfl) (by kernel_rfl) (fun _ _ d _ _ h => by cases d <;> exact h) ?_
  simp only [Fk.ops, nth]
  repeat (first | ((with_reducible refine wpForkH_look ?_); go_big_quiet_step (fail); (try (with_reducible refine wpQuiet_nil ?_))) | (with_reducible refine wpForkH_eff ?_) | ((with_reducible refine effH_F ?_ ?_); (focus rfl); go_simp) | ((with_reducible refine effH_T ?_ ?_); (focus rfl); (try dsimp only); go_wp2_with (first | (go_at_call 26; (with_reducible refine (HK.out _).mono ?_); rintro e w3 ⟨rfl, k3⟩; replace k3 := ex_trans (show Ex w2 _ from (by (try show Ex _ _); repeat (first | (with_reducible exact ex_refl _) | (with_reducible assumption) | (with_reducible refine ex_drewL ?_) | (with_reducible refine ex_appR ?_ _) | (with_reducible refine ex_wx ?_ _) | (with_reducible refine ex_drew ?_) | (with_reducible refine ex_alloc ?_ _)))) k3) | (go_at_call 25; (with_reducible refine (HC.out _ (by (try show Ex _ _); repeat (first | (with_reducible exact ex_refl _) | (with_reducible assumption) | (with_reducible refine ex_drewL ?_) | (with_reducible refine ex_appR ?_ _) | (with_reducible refine ex_wx ?_ _) | (with_reducible refine ex_drew ?_) | (with_reducible refine ex_alloc ?_ _)))).mono ?_); rintro e w4 ⟨L', rfl, hW, hD⟩; obtain ⟨b3, HX⟩ := HE.out _ w4 L' (by (try show Ex _ _); repeat (first | (with_reducible exact ex_refl _) | (with_reducible assumption) | (with_reducible refine ex_drewL ?_) | (with_reducible refine ex_appR ?_ _) | (with_reducible refine ex_wx ?_ _) | (with_reducible refine ex_drew ?_) | (with_reducible refine ex_alloc ?_ _))) hW hD; obtain ⟨n3, f3⟩ := block_cells (n := 64) b3 (by simp); replace HX := Lib.hid (HX zeroB); replace hW := Lib.hid hW; have D4 := Lib.hid hD; replace b3 := Lib.hid b3)); refine mixQH_mk (⟨_, kp_of (by first | exact S5.out _ (S4.out _ _ _ k3 D4.out) _ | exact S4.out _ _ _ k3 D4.out | exact S3.out _ k3)⟩) ?_))
  all_goals (with_reducible refine wpForkH_nil ?_)
  go_wp2
  rw [hrow.out] at HX
  obtain ⟨x1, x2, x3⟩ := HX.out
  refine ret_rowV Try.results14 Try.underlying39 rfl info_blk rfl x1 rfl rfl ⟨L', ?_, x2, x3⟩
  rw [hrow.out]; rfl
end Go.Proofs.Ytdohohafdplkiaa

/- What one question does to a disk: all of it. -/
set_option linter.unusedSimpArgs false
set_option linter.unusedVariables false
set_option maxRecDepth 20000
namespace Go.Proofs.Ytdohohafdplkiaa
open Go.RowKit
/-- A question's numbers are numbers of the language. -/
structure AkB (a : Ak) : Prop where
  a1 : -9223372036854775808 ≤ a.at'
  a2 : a.at' < 9223372036854775808
  n2 : a.n < 9223372036854775808
  n1 : -9223372036854775808 ≤ a.n
theorem of_any {w : World} {L : Loc} {d : Dk} (h : DkAt w L d) (a : Ak) (kv : Value) (hs : SlV1 KBo 1 w kv a.keep) (hb : AkB a) (hops : d.ops < 1000000000) (hq : d.qu.length < 1000000) :
    Calls Try.prog 14 #[AV a kv, PT L.p] w (PostRd w L (askD a d)) := by
  have hkv : kv.oneCell' = true := by obtain ⟨ka, kc, rfl, _⟩ := hs.out; rfl
  unfold askD
  by_cases h0 : a.kind = 0
  · rw [if_pos h0]; exact of0_any h a kv h0 hb.n2 hkv
  by_cases h1 : a.kind = 1
  · rw [if_neg h0, if_pos h1]; exact of1_any h a kv h1 hb.n2 hkv
  by_cases h2 : a.kind = 2
  · rw [if_neg h0, if_neg h1, if_pos h2]; exact of2_any h a kv h2 hs
  by_cases h3 : a.kind = 3
  · rw [if_neg h0, if_neg h1, if_neg h2, if_pos h3]; exact of3_any h a kv h3 hops hkv
  by_cases h4 : a.kind = 4 ∨ a.kind = 5
  · rw [if_neg h0, if_neg h1, if_neg h2, if_neg h3, if_pos h4]; exact of4_any h a kv h4 hb.a1 hb.a2 hops hkv
  · rw [if_neg h0, if_neg h1, if_neg h2, if_neg h3, if_neg h4]
    exact of6_any h a kv ⟨h0, h1, h2, h3, fun e => h4 (Or.inl e), fun e => h4 (Or.inr e)⟩ hb.a1 hb.a2 hops hq hkv
end Go.Proofs.Ytdohohafdplkiaa

/- Rows of questions; a disk that was asked. -/
set_option linter.unusedSimpArgs false
set_option linter.unusedVariables false
set_option maxRecDepth 20000
namespace Go.Proofs.Ytdohohafdplkiaa
open Go.RowKit
def KA (x : Ak × Value) : List Value := [I x.1.kind, I x.1.at', I x.1.n, x.2]
/-- A slice of questions, each with its own slice of bools. -/
structure AksV (w : World) (v : Value) (m : List (Ak × Value)) : Prop where
  row : SlV1 KA 4 w v m
  keep : ∀ x ∈ m, SlV1 KBo 1 w x.2 x.1.keep
  ok : ∀ x ∈ m, AkB x.1
theorem AksV.ex {w w' : World} {v : Value} {m : List (Ak × Value)} (h : AksV w v m) (k : Ex w w') : AksV w' v m := ⟨h.row.ex k, fun x hx => (h.keep x hx).ex k, h.ok⟩
theorem asks_b (l : List Ak) {d : Dk} {k : Nat} (h : DkB k d) : DkB (k + l.length) (asksD d l) := by
  induction l generalizing d k with
  | nil => exact h
  | cons a l ih => have := ih (ask_b (a := a) h); unfold asksD at *; simp only [List.foldl_cons, List.length_cons]; rwa [show k + (l.length + 1) = k + 1 + l.length by omega]
theorem newd_b (n : Nat) : DkB 0 (newD n) := ⟨Nat.le_refl _, Nat.le_refl _⟩
theorem of_o {w W0 W : World} {p : Nat} {d : Dk} (h : DkO w W0 p d) (k : Ex W0 W) (a : Ak) (kv : Value) (hs : SlV1 KBo 1 W kv a.keep) (hb : AkB a) (hops : d.ops < 1000000000) (hq : d.qu.length < 1000000) :
    Calls Try.prog 14 #[AV a kv, PT p] W (PostK w W0 W p (askD a d).1 (.tuple #[.agg (rowB 64 (bkF (askD a d).2.1)), I (askD a d).2.2])) := by
  obtain ⟨L, rfl, hL, ho⟩ := h.out
  refine (of_any (hL.ex k) a kv hs hb hops hq).mono fun e W' hh => ?_
  obtain ⟨L', rfl, k1, k2⟩ := hh
  exact DkO.post (ex_trans h.ex k) ho (fun b hb => hL.lt hb) rfl k1 k2
set_option maxHeartbeats 1000000 in
theorem asked_any {w : World} {v : Value} {m : List (Ak × Value)} (h : AksV w v m) :
    Calls Try.prog 17 #[v] w fun e w' => ∃ p, e = .returned (PT p) ∧ DkO w w' p (asksD (newD 9) ((m.map (·.1)).take 70)) := by
  obtain ⟨a, c, rfl, h1, h2, h3, hr⟩ := h.row.out
  have HR := Lib.hid hr
  have HA := Lib.hid h
  have HN : Hid (Calls Try.prog 10 #[.int .i64 9] w fun e w' => ∃ p, e = .returned (.tuple #[PT p, I 0]) ∧ DkO w w' p (newD 9)) := Lib.hid (new_o (w := w) (W := w) 9 (by omega) (by omega) (ex_refl _))
  unfold maxLen at h2
  clear h hr h3
  obtain ⟨n, hn⟩ : ∃ n, m.length = n := ⟨_, rfl⟩
  have HM := Lib.hid hn
  rw [hn] at h1 ⊢
  clear hn
  go_enter Try.func17, Try.ntmps17
  go_wp2_with (go_at_call 10; (with_reducible refine HN.out.mono ?_); rintro e w1 ⟨p, rfl, h1⟩; replace h1 := Lib.hid h1)
  go_loopw [15] (fun i W => ∃ k : Nat, k ≤ n ∧ i = I k ∧ Hid (DkO w W p (asksD (newD 9) (((m.map (·.1)).take k).take 70)))) (fun i _ => n - (intOf i).toNat)
  case atStart => exact ⟨0, by omega, rfl, h1⟩
  case round =>
    obtain ⟨k, hk, rfl, hW⟩ := hrel
    by_cases hlt : k < n
    · have hkm : k < m.length := by rw [HM.out]; exact hlt
      have hlt2 : (k : Int) < n := by omega
      obtain ⟨x, hx⟩ : ∃ x, m[k]? = some x := ⟨_, List.getElem?_eq_getElem hkm⟩
      have hxm : x ∈ m := List.mem_of_getElem? hx
      obtain ⟨g, off, rfl, hg, _⟩ := HR.out.pos (by omega)
      obtain ⟨hc, _⟩ := (HR.out.ex hW.out.ex).at hx
      have hst : Hid (((m.map (·.1)).take (k + 1)).take 70 = if k < 70 then ((m.map (·.1)).take k).take 70 ++ [x.1] else ((m.map (·.1)).take k).take 70) := Lib.hid (by
        have hkk : k < (m.map (·.1)).length := by rw [List.length_map]; exact hkm
        have he : (m.map (·.1))[k] = x.1 := by
          rw [List.getElem_map]; congr 1
          exact Option.some.inj ((List.getElem?_eq_getElem hkm).symm.trans hx)
        rw [List.take_take, List.take_take]
        split
        · rw [Nat.min_eq_right (by omega), Nat.min_eq_right (by omega), List.take_succ_eq_append_getElem hkk, he]
        · rw [Nat.min_eq_left (by omega), Nat.min_eq_left (by omega)])
      have hB : DkB 70 (asksD (newD 9) (((m.map (·.1)).take k).take 70)) := by
        have := asks_b (((m.map (·.1)).take k).take 70) (newd_b 9)
        have hl : (((m.map (·.1)).take k).take 70).length ≤ 70 := by rw [List.length_take]; omega
        exact ⟨by have := this.1; omega, by have := this.2; omega⟩
      obtain ⟨B1, B2⟩ := hB
      have hok := HA.out.ok x hxm
      have HOf : Hid (∀ W, Ex wr W → Calls Try.prog 14 #[AV x.1 x.2, PT p] W (PostK w wr W p (askD x.1 (asksD (newD 9) (((m.map (·.1)).take k).take 70))).1 (.tuple #[.agg (rowB 64 (bkF (askD x.1 (asksD (newD 9) (((m.map (·.1)).take k).take 70))).2.1)), I (askD x.1 (asksD (newD 9) (((m.map (·.1)).take k).take 70))).2.2]))) := Lib.hid fun W kW =>
        of_o hW.out kW x.1 x.2 (((HA.out.keep x hxm).ex hW.out.ex).ex kW) hok (by omega) (by omega)
      have hkv : x.2.oneCell' = true := by obtain ⟨ka, kc, e, _⟩ := (HA.out.keep x hxm).out; rw [e]; rfl
      have hgr := Nat.lt_of_lt_of_le hg (ex_size hW.out.ex)
      clear hxm hx hok B1 B2 hkm
      unfold asksD at hW HOf ⊢
      unfold KA AV at *
      by_cases h70 : k < 70
      · have h71 : (k : Int) < 70 := by omega
        rw [if_pos h70] at hst
        go_wp2_with (go_at_call 14; (with_reducible refine (HOf.out _ (by (try show Ex _ _); repeat (first | (with_reducible exact ex_refl _) | (with_reducible assumption) | (with_reducible refine ex_drewL ?_) | (with_reducible refine ex_appR ?_ _) | (with_reducible refine ex_wx ?_ _) | (with_reducible refine ex_drew ?_) | (with_reducible refine ex_alloc ?_ _)))).mono ?_); rintro e w2 ⟨rfl, h2, _⟩; replace h2 := Lib.hid h2)
        refine ⟨⟨k + 1, by omega, by go_num, Lib.hid ?_⟩, by simp [intOf]; omega⟩
        rw [hst.out, List.foldl_append]
        exact h2.out
      · have h71 : ¬ (k : Int) < 70 := by omega
        rw [if_neg h70] at hst
        go_wp2
        refine ⟨⟨k + 1, by omega, by go_num, Lib.hid ?_⟩, by simp [intOf]; omega⟩
        rw [hst.out]
        exact hW.out.grow (by (try show Ex _ _); repeat (first | (with_reducible exact ex_refl _) | (with_reducible assumption) | (with_reducible refine ex_drewL ?_) | (with_reducible refine ex_appR ?_ _) | (with_reducible refine ex_wx ?_ _) | (with_reducible refine ex_drew ?_) | (with_reducible refine ex_alloc ?_ _)))
    · obtain rfl : k = n := by omega
      have he : (m.map (·.1)).take k = m.map (·.1) := List.take_of_length_le (by rw [List.length_map, HM.out]; exact Nat.le_refl _)
      rw [he] at hW
      go_wp2
      go_ret
      exact ⟨_, rfl, hW.out⟩
end Go.Proofs.Ytdohohafdplkiaa
