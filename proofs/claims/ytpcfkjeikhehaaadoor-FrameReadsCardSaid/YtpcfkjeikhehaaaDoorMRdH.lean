import Derived.Test.YtpcfkjeikhehaaaDoorMFwA

/- The frame's reader fills a message's lists. -/
set_option linter.unusedSimpArgs false
set_option linter.unusedVariables false
set_option maxRecDepth 20000
namespace Go.Proofs.YtpcfkjeikhehaaaDoor
open Go.RowKit
/-- Whatever world. -/
def ix (X : World) : World := X
abbrev NIL : Value := .slice none 0 0
theorem sli_one {w w' : World} {g : Nat} {t : TypeId} (x : Int) (k : Ex (w.alloc (.cells #[I x] t)) w') (hg : g = w.heap.size) : SlI w' (some ⟨g, 0, none⟩) [x] := by
  subst hg
  have hb := ex_block k (heap_alloc_new w _)
  refine ⟨Or.inr ⟨_, 0, rfl, (Array.getElem?_eq_some_iff.1 hb).1, fun i y hy => ?_⟩⟩
  have hi : i = 0 := by
    have := (List.getElem?_eq_some_iff.1 hy).1
    simpa using this
  subst hi
  obtain rfl : x = y := by simpa using hy
  rw [Nat.add_zero, cell_of_row _ w.heap.size 0 _ _ _ hb]; rfl
section
variable {A w w' : World} {Z p q bm : Nat} {v : Value} {l : List UInt8} {s : Rs} {m : Ms}
theorem below_of_ex (k : Ex w w') (hz : Z ≤ w.heap.size) : Below Z w w' := by
  have := ex_below k
  exact ⟨this.os, this.tape, this.output, this.size, fun b hb => this.block b (Nat.lt_of_lt_of_le hb hz)⟩
theorem below_cellE (k : Below Z w w') {b : Nat} (hb : b < Z) (o : Nat) : w'.cell? ⟨b, o, none⟩ = w.cell? ⟨b, o, none⟩ := by simp only [World.cell?, k.block b hb]
theorem below_frozE (k : Below Z w w') {b : Nat} (hb : b < Z) (o : Nat) : w'.frozen? ⟨b, o, none⟩ = w.frozen? ⟨b, o, none⟩ := by simp only [World.frozen?, k.block b hb]
theorem RdM.put9 {mv v' : Value} {xs : List Int} (h : RdM A w Z p q bm (NIL, mv, NIL) v l s m) (he : m.es = []) (hd : m.da = []) (k : Below Z w w') (hv : OwnI w' Z v' xs) :
    RdM A (w'.setCell ⟨bm, 9, none⟩ v') Z p q bm (NIL, v', NIL) v l s { m with mb := xs } := by
  have hzb : Z ≤ (w'.setCell ⟨bm, 9, none⟩ v').heap.size := by rw [set_size]; exact Nat.le_trans h.hz k.size
  have hex : Ex A w' := ex_of_below ((ex_below h.ex).trans ⟨k.os, k.tape, k.output, k.size, fun b hb => k.block b (Nat.lt_of_lt_of_le hb (Nat.le_trans h.hp.1 (Nat.le_of_lt h.hp.2)))⟩)
  exact { h with ex := ex_set hex h.hb.1 _, hz := hzb, bp := (setCell_heap _ h.pb).trans ((k.block _ h.hp.2).trans h.bp), bq := (setCell_heap _ h.qb).trans ((k.block _ h.hq.2).trans h.bq),
                 ms := ⟨setCell_block _ ((k.block _ h.hb.2).trans h.ms.hp), by rw [he]; exact ownE_nil _ _, own_keep hv (keep_set h.hb.2 _ _), by rw [hd]; exact ownl_nil _ _⟩ }
theorem RdM.put6 {ev v' : Value} {xs : List En} (h : RdM A w Z p q bm (ev, NIL, NIL) v l s m) (he : m.mb = []) (hd : m.da = []) (k : Below Z w w') (hv : OwnE w' Z v' xs) :
    RdM A (w'.setCell ⟨bm, 6, none⟩ v') Z p q bm (v', NIL, NIL) v l s { m with es := xs } := by
  have hzb : Z ≤ (w'.setCell ⟨bm, 6, none⟩ v').heap.size := by rw [set_size]; exact Nat.le_trans h.hz k.size
  have hex : Ex A w' := ex_of_below ((ex_below h.ex).trans ⟨k.os, k.tape, k.output, k.size, fun b hb => k.block b (Nat.lt_of_lt_of_le hb (Nat.le_trans h.hp.1 (Nat.le_of_lt h.hp.2)))⟩)
  exact { h with ex := ex_set hex h.hb.1 _, hz := hzb, bp := (setCell_heap _ h.pb).trans ((k.block _ h.hp.2).trans h.bp), bq := (setCell_heap _ h.qb).trans ((k.block _ h.hq.2).trans h.bq),
                 ms := ⟨setCell_block _ ((k.block _ h.hb.2).trans h.ms.hp), hv.keep (keep_set h.hb.2 _ _), by rw [he]; exact ownI_nil _ _, by rw [hd]; exact ownl_nil _ _⟩ }
theorem RdM.poke {xs : Value × Value × Value} {w5 : World} {g o : Nat} {x : Value} (h : RdM A w Z p q bm xs v l s m) (h5 : MsM w5 Z bm xs m) (hg : Z ≤ g) (k : Keep Z w5 (w.setCell ⟨g, o, none⟩ x)) : RdM A (w.setCell ⟨g, o, none⟩ x) Z p q bm xs v l s m :=
  have h1 := h.hp; have h2 := h.hq; have h3 := h.hb
  { h with ex := ex_set h.ex (by show _ ≤ g; omega) _, hz := by rw [set_size]; exact h.hz, bp := (setCell_heap _ (by omega)).trans h.bp, bq := (setCell_heap _ (by omega)).trans h.bq,
           ms := ⟨(setCell_heap _ (by omega)).trans h.ms.hp, h5.es.keep k, own_keep h5.mb k, own_keep h5.da k⟩ }
theorem keep_mt {w5 W5 w7 : World} (k5 : Ex w5 W5) (k7 : Mt p q W5 w7) (hp : p < Z) (hq : q < Z) {g : Nat} (hg : w5.heap.size ≤ g) (o : Nat) (x : Value) : Keep Z w5 (w7.setCell ⟨g, o, none⟩ x) := by
  have h1 := ex_size k5
  refine ⟨by rw [set_size]; exact Nat.le_trans h1 k7.size, fun b hz hb => ?_⟩
  rw [setCell_heap x (by omega), k7.same b (by omega) (by omega) (by omega)]
  obtain ⟨X, rfl⟩ := k5
  exact wx_heap w5 X b hb
theorem bytesP_len (l : List UInt8) : ∀ (k : Nat) (s : Rs), (bytesP l k s).1.length = k
  | 0, _ => rfl
  | k + 1, s => by rw [bytesP]; simp [bytesP_len l k]
set_option maxHeartbeats 1000000 in
theorem members_any {mv : Value} (h : RdM A w Z p q bm (NIL, mv, NIL) v l s m) (he : m.es = []) (hd : m.da = []) (hm : m.mb = []) :
    Calls Tryd.prog 76 #[PT p, PT bm] w fun x w' => x = .returned (.tuple #[]) ∧ (∃ mv, RdM A w' Z p q bm (NIL, mv, NIL) v l (membersP l s m).1 (membersP l s m).2) ∧ w.heap.size ≤ w'.heap.size := by
  have HN := many_any h 5 (by omega)
  simp only [Int.cast_ofNat_Int] at HN
  replace HN := Lib.hid HN
  have hle := many_le l 5 s
  unfold membersP
  rw [hm, List.nil_append]
  obtain ⟨hpb, hqb, hpq⟩ := And.intro h.pb (And.intro h.qb h.pq)
  generalize manyP l 5 s = r at *
  obtain ⟨n, s1⟩ := r
  simp only at HN hle ⊢
  obtain ⟨fin, hfin⟩ : ∃ fin, bytesP l n s1 = fin := ⟨_, rfl⟩
  rw [hfin]
  have HF := Lib.hid hfin
  have HM := Lib.hid (And.intro he (And.intro hd hm))
  clear hfin he hd hm h
  obtain ⟨kd, fr, to, tm, pi, pt, es, cm, ok, mb, da⟩ := m
  simp only at HM
  go_enter Tryd.func76, Tryd.ntmps76
  go_wp2_with (go_at_call 90; (with_reducible refine (HN.out).mono ?_); rintro e w3 ⟨rfl, H2, zz2⟩; replace H2 := Lib.hid H2)
  go_loopw [6] (fun i W => ∃ (k : Nat) (mv : Value) (s' : Rs) (bs : List Int), k ≤ n ∧ i = I k ∧ bs.length = k ∧ Hid (RdM A W Z p q bm (NIL, mv, NIL) v l s' ⟨kd, fr, to, tm, pi, pt, es, cm, ok, bs, da⟩) ∧ Hid ((bs ++ (bytesP l (n - k) s').1, (bytesP l (n - k) s').2) = fin) ∧ w.heap.size ≤ W.heap.size) (fun i _ => n - (intOf i).toNat)
  case atStart =>
    refine ⟨0, mv, s1, [], by omega, rfl, rfl, ?_, Lib.hid (by rw [← HF.out]; simp), zz2.size⟩
    have := H2.out
    rw [HM.out.2.2] at this
    exact Lib.hid this
  case round =>
    obtain ⟨k, mv, s', bs, hk, rfl, hbs, H3, HR, zz3⟩ := hrel
    clear HF HN H2
    subst hbs
    by_cases hlt : bs.length < n
    · have HU := Lib.hid (fun W (kx : Ex wr W) => u8_any (H3.out.grow kx))
      have HR2 : Hid ((bytesP l (n - bs.length) s').1 = ((u8P l s').1.toNat : Int) :: (bytesP l (n - (bs.length + 1)) (u8P l s').2).1 ∧ (bytesP l (n - bs.length) s').2 = (bytesP l (n - (bs.length + 1)) (u8P l s').2).2) := Lib.hid (by
        rw [show n - bs.length = (n - (bs.length + 1)) + 1 by omega, bytesP]; exact ⟨rfl, rfl⟩)
      obtain ⟨_, ⟨p0, p1, p2, pf⟩, hqz, hpz⟩ := H3.out.cells
      obtain ⟨⟨c0, c1, c2, c3, c4, c5, c6, c7, c8, c9, c10⟩, cf⟩ := H3.out.ms.cells
      have hbz := H3.out.bm_lt
      have hlt2 : (bs.length : Int) < n := by omega
      obtain ⟨a1, a2, hmv, _⟩ := own_form H3.out.ms.mb
      simp only at hmv
      subst hmv
      generalize hur : u8P l s' = ur at *
      obtain ⟨b, s2⟩ := ur
      simp only at HU HR2
      have hwr : wrap64 (bn b) = bn b := by have := b.toNat_lt; unfold bn wrap64; omega
      clear hur
      go_wp2
      refine wp_region_forkH (fun w' => ∃ X, w' = cx wr p 0 X) (.look 0 (.look 1 (.look 2 (.look 3 (.look 4 (.look 6 (.look 7 (.look 8 (.look 9 (.fork 5 (.eff 10 (.look 11 (.eff 12 (.eff 13 (.look 14 (.look 15 (.look 16 (.eff 17 .done)))))))) 10 (.look 11 (.fork 5 (.eff 12 (.eff 13 (.look 14 (.look 15 (.look 16 (.eff 17 .done)))))) 12 (.eff 5 (.eff 13 (.look 14 (.look 15 (.look 16 (.eff 17 .done)))))))))))))))))) (⟨_, cx_of rfl⟩) (by kernel_rfl) (by kernel_rfl) (fun _ _ d _ _ h => by cases d <;> exact h) ?_
      simp only [Fk.ops, nth]
      repeat (first | ((with_reducible refine wpForkH_look ?_); go_big_quiet_step (fail); (try (with_reducible refine wpQuiet_nil ?_))) | (with_reducible refine wpForkH_eff ?_) | ((with_reducible refine effH_F ?_ ?_); (focus rfl); go_simp) | ((with_reducible refine effH_T ?_ ?_); (focus rfl); (try dsimp only); go_wp2_with (first | (go_at_call 70; (with_reducible refine (HU.out _ (by (try show Ex _ _); repeat (first | (with_reducible exact ex_refl _) | (with_reducible assumption) | (with_reducible refine ex_drewL ?_) | (with_reducible refine ex_appR ?_ _) | (with_reducible refine ex_wx ?_ _) | (with_reducible refine ex_drew ?_) | (with_reducible refine ex_alloc ?_ _)))).mono ?_); rintro e w4 ⟨rfl, H4, zz4⟩; obtain ⟨_, ⟨r0, r1, r2, rf⟩, rqz, rpz⟩ := H4.cells; obtain ⟨⟨d0, d1, d2, d3, d4, d5, d6, d7, d8, d9, d10⟩, df⟩ := H4.ms.cells; have hbz4 := H4.bm_lt; have x4 : w4.cell? ⟨p, 0, none⟩ = wr.cell? ⟨p, 0, none⟩ := r0.trans p0.symm; replace H4 := Lib.hid H4) | (at_builtin; refine wpAppZ (Z := Z) (l := bs) (r := [bn b]) _ _ rfl rfl (owns_ex H4.out.ms.mb (ex_alloc (ex_refl _) _)) rfl rfl rfl (sli_one _ (ex_refl _) rfl) (by simp; omega) (by have := H4.out.hz; simp [go_sem]; omega) (fun v5 w5 hO5 hB5 => ?_); have hB6 := (below_of_ex (ex_alloc (ex_refl w4) _) H4.out.hz).trans hB5; clear hB5; obtain ⟨f1, f2, rfl, _⟩ := own_form hO5; have x5 := (below_cellE hB6 H4.out.hp.2 0).trans x4; have y5 := (below_cellE hB6 H4.out.hb.2 9).trans d9; have y6 := (below_frozE hB6 H4.out.hb.2 9).trans (df 9); have hbz5 := Nat.lt_of_lt_of_le hbz4 hB6.size; replace hB6 := Lib.hid hB6; replace hO5 := Lib.hid hO5)); refine mixQH_mk (⟨_, cx_of (by first | rfl | exact x4 | exact (World.cell?_alloc_past _ p 0 rpz).trans x4 | exact x5 | exact (set_other hpb _).trans x5)⟩) ?_))
      all_goals (try (with_reducible refine wpForkH_fork ?_ ?_))
      all_goals repeat (first | ((with_reducible refine wpForkH_look ?_); go_big_quiet_step (fail); (try (with_reducible refine wpQuiet_nil ?_))) | (with_reducible refine wpForkH_eff ?_) | ((with_reducible refine effH_F ?_ ?_); (focus rfl); go_simp) | ((with_reducible refine effH_T ?_ ?_); (focus rfl); (try dsimp only); go_wp2_with (first | (go_at_call 70; (with_reducible refine (HU.out _ (by (try show Ex _ _); repeat (first | (with_reducible exact ex_refl _) | (with_reducible assumption) | (with_reducible refine ex_drewL ?_) | (with_reducible refine ex_appR ?_ _) | (with_reducible refine ex_wx ?_ _) | (with_reducible refine ex_drew ?_) | (with_reducible refine ex_alloc ?_ _)))).mono ?_); rintro e w4 ⟨rfl, H4, zz4⟩; obtain ⟨_, ⟨r0, r1, r2, rf⟩, rqz, rpz⟩ := H4.cells; obtain ⟨⟨d0, d1, d2, d3, d4, d5, d6, d7, d8, d9, d10⟩, df⟩ := H4.ms.cells; have hbz4 := H4.bm_lt; have x4 : w4.cell? ⟨p, 0, none⟩ = wr.cell? ⟨p, 0, none⟩ := r0.trans p0.symm; replace H4 := Lib.hid H4) | (at_builtin; refine wpAppZ (Z := Z) (l := bs) (r := [bn b]) _ _ rfl rfl (owns_ex H4.out.ms.mb (ex_alloc (ex_refl _) _)) rfl rfl rfl (sli_one _ (ex_refl _) rfl) (by simp; omega) (by have := H4.out.hz; simp [go_sem]; omega) (fun v5 w5 hO5 hB5 => ?_); have hB6 := (below_of_ex (ex_alloc (ex_refl w4) _) H4.out.hz).trans hB5; clear hB5; obtain ⟨f1, f2, rfl, _⟩ := own_form hO5; have x5 := (below_cellE hB6 H4.out.hp.2 0).trans x4; have y5 := (below_cellE hB6 H4.out.hb.2 9).trans d9; have y6 := (below_frozE hB6 H4.out.hb.2 9).trans (df 9); have hbz5 := Nat.lt_of_lt_of_le hbz4 hB6.size; replace hB6 := Lib.hid hB6; replace hO5 := Lib.hid hO5)); refine mixQH_mk (⟨_, cx_of (by first | rfl | exact x4 | exact (World.cell?_alloc_past _ p 0 rpz).trans x4 | exact x5 | exact (set_other hpb _).trans x5)⟩) ?_))
      all_goals (try (with_reducible refine wpForkH_fork ?_ ?_))
      all_goals repeat (first | ((with_reducible refine wpForkH_look ?_); go_big_quiet_step (fail); (try (with_reducible refine wpQuiet_nil ?_))) | (with_reducible refine wpForkH_eff ?_) | ((with_reducible refine effH_F ?_ ?_); (focus rfl); go_simp) | ((with_reducible refine effH_T ?_ ?_); (focus rfl); (try dsimp only); go_wp2_with (first | (go_at_call 70; (with_reducible refine (HU.out _ (by (try show Ex _ _); repeat (first | (with_reducible exact ex_refl _) | (with_reducible assumption) | (with_reducible refine ex_drewL ?_) | (with_reducible refine ex_appR ?_ _) | (with_reducible refine ex_wx ?_ _) | (with_reducible refine ex_drew ?_) | (with_reducible refine ex_alloc ?_ _)))).mono ?_); rintro e w4 ⟨rfl, H4, zz4⟩; obtain ⟨_, ⟨r0, r1, r2, rf⟩, rqz, rpz⟩ := H4.cells; obtain ⟨⟨d0, d1, d2, d3, d4, d5, d6, d7, d8, d9, d10⟩, df⟩ := H4.ms.cells; have hbz4 := H4.bm_lt; have x4 : w4.cell? ⟨p, 0, none⟩ = wr.cell? ⟨p, 0, none⟩ := r0.trans p0.symm; replace H4 := Lib.hid H4) | (at_builtin; refine wpAppZ (Z := Z) (l := bs) (r := [bn b]) _ _ rfl rfl (owns_ex H4.out.ms.mb (ex_alloc (ex_refl _) _)) rfl rfl rfl (sli_one _ (ex_refl _) rfl) (by simp; omega) (by have := H4.out.hz; simp [go_sem]; omega) (fun v5 w5 hO5 hB5 => ?_); have hB6 := (below_of_ex (ex_alloc (ex_refl w4) _) H4.out.hz).trans hB5; clear hB5; obtain ⟨f1, f2, rfl, _⟩ := own_form hO5; have x5 := (below_cellE hB6 H4.out.hp.2 0).trans x4; have y5 := (below_cellE hB6 H4.out.hb.2 9).trans d9; have y6 := (below_frozE hB6 H4.out.hb.2 9).trans (df 9); have hbz5 := Nat.lt_of_lt_of_le hbz4 hB6.size; replace hB6 := Lib.hid hB6; replace hO5 := Lib.hid hO5)); refine mixQH_mk (⟨_, cx_of (by first | rfl | exact x4 | exact (World.cell?_alloc_past _ p 0 rpz).trans x4 | exact x5 | exact (set_other hpb _).trans x5)⟩) ?_))
      all_goals (with_reducible refine wpForkH_nil ?_)
      all_goals
        go_wp2
        refine ⟨⟨bs.length + 1, _, s2, bs ++ [(b.toNat : Int)], by omega, by go_num, by simp, Lib.hid (H4.out.put9 HM.out.1 HM.out.2.1 hB6.out (by have h := hO5.out; simp only [List.length_append, List.length_cons, List.length_nil] at h; exact h)), Lib.hid ?_, by rw [set_size]; exact Nat.le_trans zz3 (Nat.le_trans zz4.size hB6.out.size)⟩, by simp [intOf]; omega⟩
        rw [← HR.out, HR2.out.1, HR2.out.2, List.append_assoc]
        rfl
    · obtain rfl : bs.length = n := by omega
      go_wp2
      go_end0
      have h1 := HR.out
      rw [Nat.sub_self] at h1
      simp only [bytesP, List.append_nil] at h1
      refine ⟨rfl, ⟨mv, ?_⟩, zz3⟩
      rw [← h1]
      exact H3.out
theorem entsP_len (l : List UInt8) : ∀ (k : Nat) (t : UInt64) (s : Rs), (entsP l k t s).1.length = k
  | 0, _, _ => rfl
  | k + 1, t, s => by rw [entsP]; simp [entsP_len l k]
set_option maxHeartbeats 2000000 in
theorem entries_any {ev : Value} (h : RdM A w Z p q bm (ev, NIL, NIL) v l s m) (he : m.es = []) (hd : m.da = []) (hm : m.mb = []) :
    Calls Tryd.prog 75 #[PT p, PT bm] w fun x w' => x = .returned (.tuple #[]) ∧ (∃ ev, RdM A w' Z p q bm (ev, NIL, NIL) v l (entriesP l s m).1 (entriesP l s m).2) ∧ w.heap.size ≤ w'.heap.size := by
  have HN := many_any h 8 (by omega)
  simp only [Int.cast_ofNat_Int] at HN
  replace HN := Lib.hid HN
  have hle := many_le l 8 s
  unfold entriesP
  rw [he, List.nil_append]
  obtain ⟨hpb, hqb, hpq⟩ := And.intro h.pb (And.intro h.qb h.pq)
  obtain ⟨⟨b0, b1, b2, b3, b4, b5, b6, b7, b8, b9, b10⟩, bf⟩ := h.ms.cells
  have hbz0 := h.bm_lt
  generalize manyP l 8 s = r at *
  obtain ⟨n, s1⟩ := r
  simp only at HN hle ⊢
  obtain ⟨fin, hfin⟩ : ∃ fin, entsP l n m.pt s1 = fin := ⟨_, rfl⟩
  rw [hfin]
  have HF := Lib.hid hfin
  have HM := Lib.hid (And.intro he (And.intro hd hm))
  clear hfin he hd hm h
  obtain ⟨kd, fr, to, tm, pi, pt, es, cm, ok, mb, da⟩ := m
  simp only at HM HF b0 b1 b2 b3 b4 b5 b7 b8
  go_enter Tryd.func75, Tryd.ntmps75
  go_wp2_with (go_at_call 90; (with_reducible refine (HN.out).mono ?_); rintro e w3 ⟨rfl, H2, zz2⟩; replace H2 := Lib.hid H2)
  go_loopw [4, 13] (fun t i W => ∃ (k : Nat) (ev : Value) (s' : Rs) (tt : UInt64) (bs : List En), k ≤ n ∧ i = I k ∧ bs.length = k ∧ t = L tt ∧ Hid (RdM A W Z p q bm (ev, NIL, NIL) v l s' ⟨kd, fr, to, tm, pi, pt, bs, cm, ok, mb, da⟩) ∧ Hid ((bs ++ (entsP l (n - k) tt s').1, (entsP l (n - k) tt s').2) = fin) ∧ w.heap.size ≤ W.heap.size) (fun _ i _ => n - (intOf i).toNat)
  case atStart =>
    refine ⟨0, ev, s1, pt, [], by omega, rfl, rfl, rfl, ?_, Lib.hid (by rw [← HF.out]; simp), zz2.size⟩
    have := H2.out
    rw [HM.out.1] at this
    exact Lib.hid this
  case round =>
    obtain ⟨k, ev, s', tt, bs, hk, rfl, hbs, rfl, H3, HR, zz3⟩ := hrel
    clear HF HN H2 b0 b1 b2 b3 b4 b5 b6 b7 b8 b9 b10 bf hbz0
    subst hbs
    by_cases hlt : bs.length < n
    · have HNm := number_any H3.out
      rw [L_nat _ (num_lt l s')] at HNm
      replace HNm := Lib.hid HNm
      have HU := Lib.hid (fun W (hW : RdM A W Z p q bm (ev, NIL, NIL) v l (numP l s').2 ⟨kd, fr, to, tm, pi, pt, bs, cm, ok, mb, da⟩) => u8_any hW)
      have HMy := fun W (hW : RdM A W Z p q bm (ev, NIL, NIL) v l (u8P l (numP l s').2).2 ⟨kd, fr, to, tm, pi, pt, bs, cm, ok, mb, da⟩) => many_any hW 65536 (by omega)
      simp only [Int.cast_ofNat_Int] at HMy
      replace HMy := Lib.hid HMy
      have hml := many_le l 65536 (u8P l (numP l s').2).2
      have HRw := Lib.hid (fun W (hW : RdM A W Z p q bm (ev, NIL, NIL) v l (manyP l 65536 (u8P l (numP l s').2).2).2 ⟨kd, fr, to, tm, pi, pt, bs, cm, ok, mb, da⟩) => rraw_any hW (manyP l 65536 (u8P l (numP l s').2).2).1 (by omega))
      have hEn : entP l tt s' = ((tt + UInt64.ofNat (numP l s').1, ((u8P l (numP l s').2).1.toNat : Int), (rawP l (manyP l 65536 (u8P l (numP l s').2).2).1 (manyP l 65536 (u8P l (numP l s').2).2).2).1), (rawP l (manyP l 65536 (u8P l (numP l s').2).2).1 (manyP l 65536 (u8P l (numP l s').2).2).2).2) := rfl
      have HR2 : Hid ((entsP l (n - bs.length) tt s').1 = (entP l tt s').1 :: (entsP l (n - (bs.length + 1)) (entP l tt s').1.1 (entP l tt s').2).1 ∧ (entsP l (n - bs.length) tt s').2 = (entsP l (n - (bs.length + 1)) (entP l tt s').1.1 (entP l tt s').2).2) := Lib.hid (by
        rw [show n - bs.length = (n - (bs.length + 1)) + 1 by omega, entsP]; exact ⟨rfl, rfl⟩)
      rw [hEn] at HR2
      clear hEn
      generalize hr4 : rawP l (manyP l 65536 (u8P l (numP l s').2).2).1 (manyP l 65536 (u8P l (numP l s').2).2).2 = r4 at *
      clear hr4
      generalize hr3 : manyP l 65536 (u8P l (numP l s').2).2 = r3 at *
      clear hr3
      generalize hr2 : u8P l (numP l s').2 = r2 at *
      clear hr2
      generalize hr1 : numP l s' = r1 at *
      clear hr1
      obtain ⟨x1, s1'⟩ := r1
      obtain ⟨x2, s2'⟩ := r2
      obtain ⟨x3, s3'⟩ := r3
      obtain ⟨x4, s4'⟩ := r4
      simp only at HNm HU HMy HRw HR2 hml
      generalize UInt64.ofNat x1 = y1 at *
      have hadd : IntKind.u64.wrap (ln tt + ln y1) = ln (tt + y1) := by
        rw [IntKind.wrap_u64]
        show ((tt.toNat : Int) + y1.toNat) % 18446744073709551616 = ((tt + y1).toNat : Int)
        rw [UInt64.toNat_add]; omega
      generalize tt + y1 = t2 at *
      have hwr : wrap64 (bn x2) = bn x2 := by have := x2.toNat_lt; unfold bn wrap64; omega
      have hlt2 : (bs.length : Int) < n := by omega
      go_wp2_with (first | (go_at_call 71; (with_reducible refine (HNm.out).mono ?_); rintro e w4 ⟨rfl, H4, zz4⟩; obtain ⟨_, ⟨r0, r1, r2, rf⟩, rqz, rpz⟩ := H4.cells; replace H4 := Lib.hid H4) | (go_at_call 70; (with_reducible refine (HU.out _ H4.out).mono ?_); rintro e w5 ⟨rfl, H5, zz5⟩; replace H5 := Lib.hid H5))
      obtain ⟨W5, hW5⟩ : ∃ W5, w5.alloc (.cells #[.int .u64 (ln t2), .int .i64 (bn x2), .slice none 0 0] 60) = W5 := ⟨_, rfl⟩
      have hq5 : W5.heap[w5.heap.size]? = some (.cells #[.int .u64 (ln t2), .int .i64 (bn x2), .slice none 0 0] 60 (0, 0)) := by rw [← hW5]; exact heap_alloc_new w5 _
      have hk5 : Ex w5 W5 := by rw [← hW5]; exact ex_alloc (ex_refl _) _
      have hs5 : W5.heap.size = w5.heap.size + 1 := by rw [← hW5]; simp [go_sem]
      rw [hW5]
      clear hW5
      have G5 := Lib.hid (H5.out.grow hk5)
      obtain ⟨_, ⟨p0, p1, p2, pf⟩, hqz, hpz⟩ := G5.out.cells
      have hz5 := H5.out.hz
      have hp5 := H5.out.hp.2
      have hq5' := H5.out.hq.2
      have hbz5 := H5.out.hb.2
      have hq6 := Lib.hid hq5
      clear hq5
      generalize hge : w5.heap.size = ge at *
      refine wp_region_forkH (fun w' => ∃ X, w' = cx W5 p 0 X) (.look 0 (.look 1 (.look 2 (.look 3 (.look 4 (.eff 5 (.eff 6 (.look 7 (.eff 8 .done))))))))) (⟨_, cx_of rfl⟩) (by kernel_rfl) (by kernel_rfl) (fun _ _ d _ _ h => by cases d <;> exact h) ?_
      simp only [Fk.ops, nth]
      repeat (first | ((with_reducible refine wpForkH_look ?_); go_big_quiet_step (fail); (try (with_reducible refine wpQuiet_nil ?_))) | (with_reducible refine wpForkH_eff ?_) | ((with_reducible refine effH_F ?_ ?_); (focus rfl); go_simp) | ((with_reducible refine effH_T ?_ ?_); (focus rfl); (try dsimp only); go_wp2_with (first | (go_at_call 90; (with_reducible refine (HMy.out _ (G5.out.grow (by (try show Ex _ _); repeat (first | (with_reducible exact ex_refl _) | (with_reducible assumption) | (with_reducible refine ex_drewL ?_) | (with_reducible refine ex_appR ?_ _) | (with_reducible refine ex_wx ?_ _) | (with_reducible refine ex_drew ?_) | (with_reducible refine ex_alloc ?_ _))))).mono ?_); rintro e w6 ⟨rfl, H6, zz6⟩; obtain ⟨_, ⟨t0, t1, t2', tf⟩, tqz, tpz⟩ := H6.cells; have x6 : w6.cell? ⟨p, 0, none⟩ = W5.cell? ⟨p, 0, none⟩ := t0.trans p0.symm; replace zz6 := (Mt.ex (w := W5) (by (try show Ex _ _); repeat (first | (with_reducible exact ex_refl _) | (with_reducible assumption) | (with_reducible refine ex_drewL ?_) | (with_reducible refine ex_appR ?_ _) | (with_reducible refine ex_wx ?_ _) | (with_reducible refine ex_drew ?_) | (with_reducible refine ex_alloc ?_ _)))).trans zz6; replace H6 := Lib.hid H6) | (go_at_call 91; (with_reducible refine (HRw.out _ H6.out).mono ?_); rintro e w7 ⟨u, rfl, hO, H7, zz7⟩; obtain ⟨ua, uc, rfl, _⟩ := own_form hO; obtain ⟨_, ⟨v0, v1, v2, vf⟩, vqz, vpz⟩ := H7.cells; have x7 : w7.cell? ⟨p, 0, none⟩ = W5.cell? ⟨p, 0, none⟩ := v0.trans p0.symm; have zz8 := zz6.trans zz7; have hq7 := (zz8.same ge (by omega) (by omega) (by omega)).trans hq6.out; obtain ⟨g2, gf2⟩ := block_cell (o := 2) (v := .slice none 0 0) hq7 rfl; have hgz7 : ge < w7.heap.size := (by have := zz8.size; omega); replace hq7 := Lib.hid hq7; replace H7 := Lib.hid H7; replace hO := Lib.hid hO)); refine mixQH_mk (⟨_, cx_of (by first | rfl | exact x6 | exact x7 | exact (set_other (by omega) _).trans x7)⟩) ?_))
      all_goals (with_reducible refine wpForkH_nil ?_)
      have hk8 := keep_mt hk5 zz8 hp5 hq5' (Nat.le_of_eq hge) 2 (.slice ua x4.length uc)
      have H8 := RdM.poke H7.out H5.out.ms hz5 hk8
      have hq8 := setCell_block (o := 2) (.slice ua x4.length uc) hq7.out
      have hz6 : ge < w6.heap.size := by have := zz6.size; omega
      have hO8 := own_keep hO.out (Keep.set (Keep.refl _ w7) hz6 (.slice ua x4.length uc) (o := 2))
      have hev := H5.out.ms.es.lt
      have hev8 := H5.out.ms.es.keep hk8
      have hz8 : w.heap.size ≤ (w7.setCell ⟨ge, 2, none⟩ (.slice ua x4.length uc)).heap.size := by rw [set_size]; have := zz4.size; have := zz5.size; have := zz8.size; omega
      obtain ⟨W8, hW8⟩ : ∃ W8, w7.setCell ⟨ge, 2, none⟩ (.slice ua x4.length uc) = W8 := ⟨_, rfl⟩
      rw [hW8] at H8 hq8 hO8 hev8 hz8 ⊢
      have hdb : Hid (∀ b, Value.ownBlock (.slice ua x4.length uc) = some b → Z ≤ b ∧ b < W8.heap.size ∧ Value.ownBlock ev ≠ some b ∧ NoFz W8 b) := Lib.hid fun b hb => by
        have h1 := World.ownsRow.lt hO8 b hb
        refine ⟨by omega, h1.2, fun he => ?_, own_nofz hO8 hb⟩
        have h2 := (hev b he).2
        omega
      clear hW8 hk8 hev hq7 hO H7 zz8 zz7 x7 v0 v1 v2 vf vqz vpz g2 gf2 hgz7 H6 x6 t0 t1 t2' tf tqz tpz zz6 G5 hq6 hk5 H5 H4 r0 r1 r2 rf rqz rpz hqz hpz p0 p1 p2 pf
      have hse := (Array.getElem?_eq_some_iff.1 hq8).1
      have e0 : W8.cell? ⟨ge, 0, none⟩ = some (L t2) := (block_cell hq8 rfl).1
      have e1 : W8.cell? ⟨ge, 1, none⟩ = some (.int .i64 (bn x2)) := (block_cell hq8 rfl).1
      have e2 : W8.cell? ⟨ge, 2, none⟩ = some (.slice ua x4.length uc) := (block_cell hq8 rfl).1
      obtain ⟨⟨c0, c1, c2, c3, c4, c5, c6, c7, c8, c9, c10⟩, cf⟩ := H8.ms.cells
      have hbz8 := H8.bm_lt
      have hz9 := H8.hz
      replace H8 := Lib.hid H8
      replace hO8 := Lib.hid hO8
      replace hev8 := Lib.hid hev8
      clear hq8
      have HSx : Hid (∀ W, Ex W8 W → SlT W (.slice ua x4.length uc) x4) := Lib.hid fun W kx => (OwnL.slt (show OwnL W8 w6.heap.size (.slice ua x4.length uc) x4 from hO8.out)).ex kx
      have HEx : Hid (∀ W, Ex W8 W → OwnE W Z ev bs) := Lib.hid fun W kx => OwnE.ex hev8.out kx
      go_wp2
      refine wp_region_forkH (fun w' => ∃ X, w' = ix X) (.look 0 (.look 1 (.look 2 (.look 3 (.fork 4 (.eff 5 (.eff 6 (.eff 7 (.look 8 (.look 9 (.eff 10 .done)))))) 5 (.fork 4 (.eff 6 (.eff 7 (.look 8 (.look 9 (.eff 10 .done))))) 6 (.eff 4 (.eff 7 (.look 8 (.look 9 (.eff 10 .done))))))))))) (⟨_, rfl⟩) (by kernel_rfl) (by kernel_rfl) (fun _ _ d _ _ h => by cases d <;> exact h) ?_
      simp only [Fk.ops, nth]
      repeat (first | ((with_reducible refine wpForkH_look ?_); go_big_quiet_step (fail); (try (with_reducible refine wpQuiet_nil ?_))) | (with_reducible refine wpForkH_eff ?_) | ((with_reducible refine effH_F ?_ ?_); (focus rfl); go_simp) | ((with_reducible refine effH_T ?_ ?_); (focus rfl); (try dsimp only); go_wp2_with (first | (at_builtin; refine wpAppE (Z := Z) (v := ev) (dv := .slice ua x4.length uc) (l := bs) (e := ((t2, bn x2, x4) : En)) (g := W8.heap.size) _ _ rfl rfl (HEx.out _ (by (try show Ex _ _); repeat (first | (with_reducible exact ex_refl _) | (with_reducible assumption) | (with_reducible refine ex_drewL ?_) | (with_reducible refine ex_appR ?_ _) | (with_reducible refine ex_wx ?_ _) | (with_reducible refine ex_drew ?_) | (with_reducible refine ex_alloc ?_ _)))) rfl rfl (by simp [go_sem]) (by simp [go_sem]) (by simp [go_sem]) (HSx.out _ (by (try show Ex _ _); repeat (first | (with_reducible exact ex_refl _) | (with_reducible assumption) | (with_reducible refine ex_drewL ?_) | (with_reducible refine ex_appR ?_ _) | (with_reducible refine ex_wx ?_ _) | (with_reducible refine ex_drew ?_) | (with_reducible refine ex_alloc ?_ _)))) (fun b hb => ⟨(hdb.out b hb).1, Nat.lt_of_lt_of_le (hdb.out b hb).2.1 (by simp [go_sem] <;> omega), (hdb.out b hb).2.2.1, nofz_ex (hdb.out b hb).2.2.2 (hdb.out b hb).2.1 (by (try show Ex _ _); repeat (first | (with_reducible exact ex_refl _) | (with_reducible assumption) | (with_reducible refine ex_drewL ?_) | (with_reducible refine ex_appR ?_ _) | (with_reducible refine ex_wx ?_ _) | (with_reducible refine ex_drew ?_) | (with_reducible refine ex_alloc ?_ _)))⟩) (by omega) (by simp [go_sem]; omega) (fun v9 w9 hO9 hA9 => ?_); have hB9 := (below_of_ex (w := W8) (by (try show Ex _ _); repeat (first | (with_reducible exact ex_refl _) | (with_reducible assumption) | (with_reducible refine ex_drewL ?_) | (with_reducible refine ex_appR ?_ _) | (with_reducible refine ex_wx ?_ _) | (with_reducible refine ex_drew ?_) | (with_reducible refine ex_alloc ?_ _))) hz9).trans (hA9.below (by simp [go_sem]; omega) (fun g hg => (hev8.out.lt g hg).1)); obtain ⟨f1, f2, rfl, _⟩ := OwnE.form hO9; have y6 := (below_cellE hB9 H8.out.hb.2 6).trans c6; have y7 := (below_frozE hB9 H8.out.hb.2 6).trans (cf 6); have hbz9 := Nat.lt_of_lt_of_le hbz8 hB9.size; clear hA9; replace hB9 := Lib.hid hB9; replace hO9 := Lib.hid hO9)); refine mixQH_mk (⟨_, rfl⟩) ?_))
      all_goals (try (with_reducible refine wpForkH_fork ?_ ?_))
      all_goals repeat (first | ((with_reducible refine wpForkH_look ?_); go_big_quiet_step (fail); (try (with_reducible refine wpQuiet_nil ?_))) | (with_reducible refine wpForkH_eff ?_) | ((with_reducible refine effH_F ?_ ?_); (focus rfl); go_simp) | ((with_reducible refine effH_T ?_ ?_); (focus rfl); (try dsimp only); go_wp2_with (first | (at_builtin; refine wpAppE (Z := Z) (v := ev) (dv := .slice ua x4.length uc) (l := bs) (e := ((t2, bn x2, x4) : En)) (g := W8.heap.size) _ _ rfl rfl (HEx.out _ (by (try show Ex _ _); repeat (first | (with_reducible exact ex_refl _) | (with_reducible assumption) | (with_reducible refine ex_drewL ?_) | (with_reducible refine ex_appR ?_ _) | (with_reducible refine ex_wx ?_ _) | (with_reducible refine ex_drew ?_) | (with_reducible refine ex_alloc ?_ _)))) rfl rfl (by simp [go_sem]) (by simp [go_sem]) (by simp [go_sem]) (HSx.out _ (by (try show Ex _ _); repeat (first | (with_reducible exact ex_refl _) | (with_reducible assumption) | (with_reducible refine ex_drewL ?_) | (with_reducible refine ex_appR ?_ _) | (with_reducible refine ex_wx ?_ _) | (with_reducible refine ex_drew ?_) | (with_reducible refine ex_alloc ?_ _)))) (fun b hb => ⟨(hdb.out b hb).1, Nat.lt_of_lt_of_le (hdb.out b hb).2.1 (by simp [go_sem] <;> omega), (hdb.out b hb).2.2.1, nofz_ex (hdb.out b hb).2.2.2 (hdb.out b hb).2.1 (by (try show Ex _ _); repeat (first | (with_reducible exact ex_refl _) | (with_reducible assumption) | (with_reducible refine ex_drewL ?_) | (with_reducible refine ex_appR ?_ _) | (with_reducible refine ex_wx ?_ _) | (with_reducible refine ex_drew ?_) | (with_reducible refine ex_alloc ?_ _)))⟩) (by omega) (by simp [go_sem]; omega) (fun v9 w9 hO9 hA9 => ?_); have hB9 := (below_of_ex (w := W8) (by (try show Ex _ _); repeat (first | (with_reducible exact ex_refl _) | (with_reducible assumption) | (with_reducible refine ex_drewL ?_) | (with_reducible refine ex_appR ?_ _) | (with_reducible refine ex_wx ?_ _) | (with_reducible refine ex_drew ?_) | (with_reducible refine ex_alloc ?_ _))) hz9).trans (hA9.below (by simp [go_sem]; omega) (fun g hg => (hev8.out.lt g hg).1)); obtain ⟨f1, f2, rfl, _⟩ := OwnE.form hO9; have y6 := (below_cellE hB9 H8.out.hb.2 6).trans c6; have y7 := (below_frozE hB9 H8.out.hb.2 6).trans (cf 6); have hbz9 := Nat.lt_of_lt_of_le hbz8 hB9.size; clear hA9; replace hB9 := Lib.hid hB9; replace hO9 := Lib.hid hO9)); refine mixQH_mk (⟨_, rfl⟩) ?_))
      all_goals (try (with_reducible refine wpForkH_fork ?_ ?_))
      all_goals repeat (first | ((with_reducible refine wpForkH_look ?_); go_big_quiet_step (fail); (try (with_reducible refine wpQuiet_nil ?_))) | (with_reducible refine wpForkH_eff ?_) | ((with_reducible refine effH_F ?_ ?_); (focus rfl); go_simp) | ((with_reducible refine effH_T ?_ ?_); (focus rfl); (try dsimp only); go_wp2_with (first | (at_builtin; refine wpAppE (Z := Z) (v := ev) (dv := .slice ua x4.length uc) (l := bs) (e := ((t2, bn x2, x4) : En)) (g := W8.heap.size) _ _ rfl rfl (HEx.out _ (by (try show Ex _ _); repeat (first | (with_reducible exact ex_refl _) | (with_reducible assumption) | (with_reducible refine ex_drewL ?_) | (with_reducible refine ex_appR ?_ _) | (with_reducible refine ex_wx ?_ _) | (with_reducible refine ex_drew ?_) | (with_reducible refine ex_alloc ?_ _)))) rfl rfl (by simp [go_sem]) (by simp [go_sem]) (by simp [go_sem]) (HSx.out _ (by (try show Ex _ _); repeat (first | (with_reducible exact ex_refl _) | (with_reducible assumption) | (with_reducible refine ex_drewL ?_) | (with_reducible refine ex_appR ?_ _) | (with_reducible refine ex_wx ?_ _) | (with_reducible refine ex_drew ?_) | (with_reducible refine ex_alloc ?_ _)))) (fun b hb => ⟨(hdb.out b hb).1, Nat.lt_of_lt_of_le (hdb.out b hb).2.1 (by simp [go_sem] <;> omega), (hdb.out b hb).2.2.1, nofz_ex (hdb.out b hb).2.2.2 (hdb.out b hb).2.1 (by (try show Ex _ _); repeat (first | (with_reducible exact ex_refl _) | (with_reducible assumption) | (with_reducible refine ex_drewL ?_) | (with_reducible refine ex_appR ?_ _) | (with_reducible refine ex_wx ?_ _) | (with_reducible refine ex_drew ?_) | (with_reducible refine ex_alloc ?_ _)))⟩) (by omega) (by simp [go_sem]; omega) (fun v9 w9 hO9 hA9 => ?_); have hB9 := (below_of_ex (w := W8) (by (try show Ex _ _); repeat (first | (with_reducible exact ex_refl _) | (with_reducible assumption) | (with_reducible refine ex_drewL ?_) | (with_reducible refine ex_appR ?_ _) | (with_reducible refine ex_wx ?_ _) | (with_reducible refine ex_drew ?_) | (with_reducible refine ex_alloc ?_ _))) hz9).trans (hA9.below (by simp [go_sem]; omega) (fun g hg => (hev8.out.lt g hg).1)); obtain ⟨f1, f2, rfl, _⟩ := OwnE.form hO9; have y6 := (below_cellE hB9 H8.out.hb.2 6).trans c6; have y7 := (below_frozE hB9 H8.out.hb.2 6).trans (cf 6); have hbz9 := Nat.lt_of_lt_of_le hbz8 hB9.size; clear hA9; replace hB9 := Lib.hid hB9; replace hO9 := Lib.hid hO9)); refine mixQH_mk (⟨_, rfl⟩) ?_))
      all_goals (with_reducible refine wpForkH_nil ?_)
      all_goals
        go_wp2
        refine ⟨⟨bs.length + 1, _, s4', t2, bs ++ [(t2, (x2.toNat : Int), x4)], by omega, by go_num, by simp, rfl, Lib.hid (H8.out.put6 HM.out.2.2 HM.out.2.1 hB9.out (by have h := hO9.out; simp only [List.length_append, List.length_cons, List.length_nil] at h; exact h)), Lib.hid ?_, by rw [set_size]; exact Nat.le_trans hz8 hB9.out.size⟩, by simp [intOf]; omega⟩
        rw [← HR.out, HR2.out.1, HR2.out.2, List.append_assoc]
        rfl
    · obtain rfl : bs.length = n := by omega
      go_wp2
      go_end0
      have h1 := HR.out
      rw [Nat.sub_self] at h1
      simp only [entsP, List.append_nil] at h1
      refine ⟨rfl, ⟨ev, ?_⟩, zz3⟩
      rw [← h1]
      exact H3.out
end
end Go.Proofs.YtpcfkjeikhehaaaDoor
