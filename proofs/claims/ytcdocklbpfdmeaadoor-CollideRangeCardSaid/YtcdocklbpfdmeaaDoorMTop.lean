import Derived.Test.YtcdocklbpfdmeaaDoorMTop1

/- Top: the root that a span is of. -/
set_option linter.unusedSimpArgs false
set_option linter.unusedVariables false
set_option maxRecDepth 20000
namespace Go.Proofs.YtcdocklbpfdmeaaDoor
open Go.RowKit
def okS (t f : Int) (ps : List Pr) : Prop := 0 ≤ t ∧ t ≤ 200 ∧ 0 ≤ f ∧ (ps.length : Int) ≤ t ∧ f ≤ t - ps.length ∧ rightP ps = true
instance (t f : Int) (ps : List Pr) : Decidable (okS t f ps) := by unfold okS; infer_instance
def topS (t f : Int) (ps : List Pr) (qs : List Dg) : Option Dg :=
  if okS t f ps then
    (if t = 0 then (if qs.length = 0 then some (crownD 0 zeroD) else none)
     else if ps.length = 0 then none
     else if (treeD (FT ps qs f.toNat) 0 t.toNat 0).2 = qs.length then some (crownD t (treeD (FT ps qs f.toNat) 0 t.toNat 0).1) else none)
  else none
theorem top1_any (w : World) : Calls Tryd.prog 106 #[] w (Post w (.tuple #[.agg (rowB 32 fun _ => 0), I 251])) := by
  go_enter Tryd.func106, Tryd.ntmps106
  go_wp2
  exact ret_rowV (cs := rowB 32 fun _ => 0) (v := I 251) Tryd.results106 Tryd.underlying46 rfl info_id rfl (by simp [go_sem]) rfl rfl (post_mk rfl (by (try show Ex _ _); with_reducible repeat (first | exact ex_refl _ | assumption | refine ex_drewL ?_ | refine ex_appR ?_ _ | refine ex_wx ?_ _ | refine ex_drew ?_ | refine ex_alloc ?_ _)))
theorem top_climb {A : World} (G : Glob A) (ps : List Pr) (qs : List Dg) (pa qa : Option Addr) (pc qc first total bs be bt : Nat) (hpc : ps.length ≤ pc) (hpm : pc ≤ maxLen) (hqc : qs.length ≤ qc) (hqm : qc ≤ maxLen) (hps : SlP A pa ps) (hqs : SlD A qa qs)
    (hb1 : A.cell? ⟨bs, 1, none⟩ = some (I first)) (hb2 : A.cell? ⟨bs, 2, none⟩ = some (.slice pa ps.length pc)) (hb3 : A.cell? ⟨bs, 3, none⟩ = some (.slice qa qs.length qc)) (hbs : bs < A.heap.size)
    (hbe : A.cell? ⟨be, 0, none⟩ = some (I (first + ps.length : Nat))) (hbe2 : be < A.heap.size) (n : Nat) (h1 : 1 ≤ n) (hn : n ≤ 1000) (w' : World) (hI : InvT A bt (fun _ => False) 0 w') :
    Calls Tryd.prog 64 #[I 0, I n, .func (.func 107) #[] #[.pointer (some ⟨bs, 0, none⟩), .pointer (some ⟨be, 0, none⟩), .pointer (some ⟨bt, 0, none⟩)]] w'
      (PostC (InvT A bt) (fun _ => False) (treeD (FT ps qs first) 0 n 0).2 w' (.agg (rowB 32 (dF (treeD (FT ps qs first) 0 n 0).1)))) := by
  have h := climbT_any (invT_ok G bt) (FT ps qs first) 107 #[.pointer (some ⟨bs, 0, none⟩), .pointer (some ⟨be, 0, none⟩), .pointer (some ⟨bt, 0, none⟩)] n hn (fun _ _ => by simp [go_sem])
    (fun at_ s => by unfold FT; split; rfl; rw [if_pos rfl]; rfl) (fun at_ s => s ≤ at_) (fun at_ n s hn hq _ => by unfold FT; split; (simp only; omega); split <;> simp only <;> omega) (fun at_ n s hq _ => by unfold FT; split; simp_all [FT]; split <;> simp only <;> omega)
    (fun p at_ n s w2 hn hat hq hI2 => top2_any G ps qs pa qa pc qc first total bs be bt hpc hpm hqc hqm hps hqs hb1 hb2 hb3 hbs hbe hbe2 at_ n hn (by omega) s hq p w2 hI2)
    n 0 0 (fun _ => False) w' h1 (by omega) (by omega) hI
  exact h
theorem top_end {A w w9 : World} {bt k : Nat} {p : Nat → Prop} (kA : Ex w A) (hI : InvT A bt p k w9) {b2 : Nat} (h2 : w.heap.size ≤ b2) {t : TypeId} (hb : A.heap[b2]? = some (.cells (rowB 32 fun _ => 0) t (0, 0))) :
    Ex w w9 ∧ w9.cell? ⟨bt, 0, none⟩ = some (I k) ∧ cellsN w9 b2 0 32 = some (rowB 32 fun _ => 0) ∧ frozenN w9 b2 0 32 = false ∧ b2 < w9.heap.size ∧ (∀ vs, Ex w (w9.setCells b2 0 vs)) ∧ (∀ f : Nat → UInt8, cellsN (w9.setCells b2 0 (rowB 32 f).toList) b2 0 32 = some (rowB 32 f)) ∧ bt < w9.heap.size := by
  have h9 := ex_block hI.ex hb
  obtain ⟨e1, e2, e3⟩ := block_cells (n := 32) h9 (by simp)
  have k9 := ex_trans kA hI.ex
  refine ⟨k9, (block_cell hI.row rfl).1, e1, e2, e3, fun vs => ex_setCells k9 h2 _ _, fun f => ?_, (Array.getElem?_eq_some_iff.1 hI.row).1⟩
  have h10 := setCells_block b2 t (0, 0) (rowB 32 f).toList 0 _ _ h9
  rw [splice_row] at h10
  exact (block_cells (n := 32) h10 (by simp)).1
theorem top_start (w : World) (X : More) {A : World} {T F : Int} {L L2 pc qc : Nat} {pa qa : Option Addr} (hA : A = ((wx ((w.alloc (.cells #[I T, I F, .slice pa L pc, .slice qa L2 qc] 27)).alloc (.cells (rowB 32 fun _ => 0) 46)) X).alloc (.cells #[I (F + L)] 3))) :
    Ex w A ∧ A.cell? ⟨w.heap.size, 0, none⟩ = some (I T) ∧ A.cell? ⟨w.heap.size, 1, none⟩ = some (I F) ∧ A.cell? ⟨w.heap.size, 2, none⟩ = some (.slice pa L pc) ∧ A.cell? ⟨w.heap.size, 3, none⟩ = some (.slice qa L2 qc) ∧ w.heap.size < A.heap.size ∧
    A.cell? ⟨w.heap.size + 1 + 1 + X.blocks.length, 0, none⟩ = some (I (F + L)) ∧ w.heap.size + 1 + 1 + X.blocks.length < A.heap.size ∧ InvT A (w.heap.size + 1 + 1 + X.blocks.length + 1) (fun _ => False) 0 (A.alloc (.cells #[I 0] 3)) ∧ A.heap[w.heap.size + 1]? = some (.cells (rowB 32 fun _ => 0) 46 (0, 0)) := by
  have k1 : Ex (w.alloc (.cells #[I T, I F, .slice pa L pc, .slice qa L2 qc] 27)) A := by rw [hA]; exact (by (try show Ex _ _); with_reducible repeat (first | exact ex_refl _ | assumption | refine ex_drewL ?_ | refine ex_appR ?_ _ | refine ex_wx ?_ _ | refine ex_drew ?_ | refine ex_alloc ?_ _))
  have k2 : Ex ((w.alloc (.cells #[I T, I F, .slice pa L pc, .slice qa L2 qc] 27)).alloc (.cells (rowB 32 fun _ => 0) 46)) A := by rw [hA]; exact (by (try show Ex _ _); with_reducible repeat (first | exact ex_refl _ | assumption | refine ex_drewL ?_ | refine ex_appR ?_ _ | refine ex_wx ?_ _ | refine ex_drew ?_ | refine ex_alloc ?_ _))
  have hs : A.heap.size = w.heap.size + 1 + 1 + X.blocks.length + 1 := by rw [hA]; simp [go_sem]
  have hb := ex_block k1 (heap_alloc_new w _)
  have hb2 := ex_block k2 (heap_alloc_new _ _)
  have hn : A.heap[w.heap.size + 1 + 1 + X.blocks.length]? = some (.cells #[I (F + L)] 3 (0, 0)) := by
    have := heap_alloc_new (wx ((w.alloc (.cells #[I T, I F, .slice pa L pc, .slice qa L2 qc] 27)).alloc (.cells (rowB 32 fun _ => 0) 46)) X) (.cells #[I (F + L)] 3)
    rw [← hA] at this
    have h3 : (wx ((w.alloc (.cells #[I T, I F, .slice pa L pc, .slice qa L2 qc] 27)).alloc (.cells (rowB 32 fun _ => 0) 46)) X).heap.size = w.heap.size + 1 + 1 + X.blocks.length := by simp [go_sem]
    rwa [h3] at this
  refine ⟨by rw [hA]; exact (by (try show Ex _ _); with_reducible repeat (first | exact ex_refl _ | assumption | refine ex_drewL ?_ | refine ex_appR ?_ _ | refine ex_wx ?_ _ | refine ex_drew ?_ | refine ex_alloc ?_ _)), (block_cell hb rfl).1, (block_cell hb rfl).1, (block_cell hb rfl).1, (block_cell hb rfl).1, by omega, (block_cell hn rfl).1, by omega, ⟨ex_alloc (ex_refl _) _, fun _ h => h.elim, by omega, ?_⟩, ?_⟩
  · have := heap_alloc_new A (.cells #[I 0] 3)
    rwa [hs] at this
  · have h3 : (w.alloc (.cells #[I T, I F, .slice pa L pc, .slice qa L2 qc] 27)).heap.size = w.heap.size + 1 := by simp [go_sem]
    rwa [h3] at hb2
def errT (o : Option Dg) : Int := if o.isSome then 0 else 251
set_option maxHeartbeats 4000000 in
theorem top_any {w0 : World} (G : Glob w0) (t f : Int) (ps : List Pr) (qs : List Dg) (pa qa : Option Addr) (pc qc : Nat) (w : World) (k0 : Ex w0 w) (hpc : ps.length ≤ pc) (hpm : pc ≤ maxLen) (hqc : qs.length ≤ qc) (hqm : qc ≤ maxLen) (hps : SlP w pa ps) (hqs : SlD w qa qs) :
    Calls Tryd.prog 66 #[.agg #[I t, I f, .slice pa ps.length pc, .slice qa qs.length qc]] w (Post w (.tuple #[.agg (rowB 32 (dF ((topS t f ps qs).getD zeroD))), I (errT (topS t f ps qs))])) := by
  replace G := G.ex k0
  clear k0
  have HC : Hid (∀ w', Ex w w' → Calls Tryd.prog 62 #[.slice pa ps.length pc] w' (Post w' (I (chkP ps)))) := Lib.hid fun w' k => Check_any ps pa pc w' hpc hpm (hps.ex k)
  by_cases hok : okS t f ps
  · have hok2 := hok
    obtain ⟨o1, o2, o3, o4, o5, o6⟩ := hok2
    unfold chkP at HC
    rw [if_pos o6] at HC
    obtain ⟨T, rfl⟩ : ∃ T : Nat, t = T := ⟨t.toNat, by omega⟩
    obtain ⟨F, rfl⟩ : ∃ F : Nat, f = F := ⟨f.toNat, by omega⟩
    have c1t : decide ((T : Int) < 0) = false := decide_eq_false (by omega)
    have c2t : decide ((200 : Int) < T) = false := decide_eq_false (by omega)
    have c2u : decide (200 < T) = false := decide_eq_false (by omega)
    have c3t : decide ((F : Int) < 0) = false := decide_eq_false (by omega)
    have c4t : decide ((T : Int) < ps.length) = false := decide_eq_false (by omega)
    have c4u : decide (T < ps.length) = false := decide_eq_false (by omega)
    have c5t : decide ((T : Int) - ps.length < F) = false := decide_eq_false (by omega)
    have GW := Lib.hid G
    have HK := Lib.hid (fun n d w' (k : Ex w w') => scrown_any G n d w' k)
    by_cases h0 : T = 0
    · subst h0
      have hl0 : ps.length = 0 := by omega
      have hF0 : F = 0 := by omega
      subst hF0
      by_cases hq0 : qs.length = 0
      · have hx : topS ((0 : Nat) : Int) ((0 : Nat) : Int) ps qs = some (crownD 0 zeroD) := by unfold topS; rw [if_pos hok, if_pos (show ((0 : Nat) : Int) = 0 from rfl), if_pos hq0]
        rw [hx]
        have HK0 : Hid (∀ w', Ex w w' → Calls Tryd.prog 63 #[I 0, .agg (rowB 32 fun _ => 0)] w' (Post w' (.agg (rowB 32 (dF (crownD 0 zeroD)))))) := Lib.hid fun w' k => by have := HK.out 0 zeroD w' k; rwa [row_zero] at this
        simp only [Option.getD_some, errT, Option.isSome_some, if_true]
        generalize crownD 0 zeroD = z at HK0 ⊢
        rw [hl0] at HC c4t c4u c5t ⊢
        rw [hq0]
        clear hx hok o1 o2 o3 o4 o5 o6 hps hqs
        go_enter Tryd.func66, Tryd.ntmps66
        go_wp2_with (first | (go_at_call 62; (with_reducible refine (HC.out _ (by (try show Ex _ _); with_reducible repeat (first | exact ex_refl _ | assumption | refine ex_drewL ?_ | refine ex_appR ?_ _ | refine ex_wx ?_ _ | refine ex_drew ?_ | refine ex_alloc ?_ _))).mono ?_); rintro e w2 ⟨rfl, X, rfl⟩) | (go_at_call 63; (with_reducible refine (HK0.out _ (by (try show Ex _ _); with_reducible repeat (first | exact ex_refl _ | assumption | refine ex_drewL ?_ | refine ex_appR ?_ _ | refine ex_wx ?_ _ | refine ex_drew ?_ | refine ex_alloc ?_ _))).mono ?_); rintro e w2 ⟨rfl, X, rfl⟩))
        exact ret_rowV (cs := rowB 32 (dF z)) (v := I 0) Tryd.results66 Tryd.underlying46 rfl info_id rfl (by simp [go_sem]) rfl rfl (post_mk rfl (by (try show Ex _ _); with_reducible repeat (first | exact ex_refl _ | assumption | refine ex_drewL ?_ | refine ex_appR ?_ _ | refine ex_wx ?_ _ | refine ex_drew ?_ | refine ex_alloc ?_ _)))
      · have hx : topS ((0 : Nat) : Int) ((0 : Nat) : Int) ps qs = none := by unfold topS; rw [if_pos hok, if_pos (show ((0 : Nat) : Int) = 0 from rfl), if_neg hq0]
        rw [hx]
        simp only [Option.getD_none, errT, Option.isSome_none, Bool.false_eq_true, if_false]
        rw [row_zero]
        rw [hl0] at HC c4t c4u c5t ⊢
        have hq1 : (0 : Int) < qs.length := by omega
        generalize qs.length = L2 at *
        clear hx hok o1 o2 o3 o4 o5 o6 hps hqs
        go_enter Tryd.func66, Tryd.ntmps66
        go_wp2_with (first | (go_at_call 62; (with_reducible refine (HC.out _ (by (try show Ex _ _); with_reducible repeat (first | exact ex_refl _ | assumption | refine ex_drewL ?_ | refine ex_appR ?_ _ | refine ex_wx ?_ _ | refine ex_drew ?_ | refine ex_alloc ?_ _))).mono ?_); rintro e w2 ⟨rfl, X, rfl⟩) | (go_at_call 106; (with_reducible refine (top1_any _).mono ?_); rintro e w2 ⟨rfl, X, rfl⟩))
        exact ret_rowV (cs := rowB 32 fun _ => 0) (v := I 251) Tryd.results66 Tryd.underlying46 rfl info_id rfl (by simp [go_sem]) rfl rfl (post_mk rfl (by (try show Ex _ _); with_reducible repeat (first | exact ex_refl _ | assumption | refine ex_drewL ?_ | refine ex_appR ?_ _ | refine ex_wx ?_ _ | refine ex_drew ?_ | refine ex_alloc ?_ _)))
    · have v0 : ((T : Int) == 0) = false := beq_eq_false_iff_ne.2 (by omega)
      by_cases hl0 : ps.length = 0
      · have hx : topS (T : Int) (F : Int) ps qs = none := by unfold topS; rw [if_pos hok, if_neg (by omega), if_pos hl0]
        rw [hx]
        simp only [Option.getD_none, errT, Option.isSome_none, Bool.false_eq_true, if_false]
        rw [row_zero]
        rw [hl0] at HC c4t c4u c5t ⊢
        generalize qs.length = L2 at *
        have c5v : decide ((T : Int) < F) = false := decide_eq_false (by omega)
        have c5w : decide (T < F) = false := decide_eq_false (by omega)
        have v1 : ((0 : Int) == 0) = true := rfl
        have vw : wrap64 (T : Int) = T := by unfold wrap64; omega
        clear hx hok o1 o2 o3 o4 o5 o6 hps hqs h0
        go_enter Tryd.func66, Tryd.ntmps66
        go_wp2_with (first | (go_at_call 62; (with_reducible refine (HC.out _ (by (try show Ex _ _); with_reducible repeat (first | exact ex_refl _ | assumption | refine ex_drewL ?_ | refine ex_appR ?_ _ | refine ex_wx ?_ _ | refine ex_drew ?_ | refine ex_alloc ?_ _))).mono ?_); rintro e w2 ⟨rfl, X, rfl⟩) | (go_at_call 106; (with_reducible refine (top1_any _).mono ?_); rintro e w2 ⟨rfl, X, rfl⟩))
        exact ret_rowV (cs := rowB 32 fun _ => 0) (v := I 251) Tryd.results66 Tryd.underlying46 rfl info_id rfl (by simp [go_sem]) rfl rfl (post_mk rfl (by (try show Ex _ _); with_reducible repeat (first | exact ex_refl _ | assumption | refine ex_drewL ?_ | refine ex_appR ?_ _ | refine ex_wx ?_ _ | refine ex_drew ?_ | refine ex_alloc ?_ _)))
      · have v1 : ((ps.length : Int) == 0) = false := beq_eq_false_iff_ne.2 (by omega)
        have hx : topS (T : Int) (F : Int) ps qs = if (treeD (FT ps qs F) 0 T 0).2 = qs.length then some (crownD T (treeD (FT ps qs F) 0 T 0).1) else none := by unfold topS; rw [if_pos hok, if_neg (by omega), if_neg hl0]; rfl
        rw [hx]
        clear hx
        obtain ⟨L, hL⟩ : ∃ L, ps.length = L := ⟨_, rfl⟩
        obtain ⟨L2, hL2⟩ : ∃ L2, qs.length = L2 := ⟨_, rfl⟩
        obtain ⟨r, hr⟩ : ∃ r, treeD (FT ps qs F) 0 T 0 = r := ⟨_, rfl⟩
        have HTC0 := fun A (kA : Ex w A) bs be bt => top_climb (G.ex kA) ps qs pa qa pc qc F T bs be bt hpc hpm hqc hqm (hps.ex kA) (hqs.ex kA)
        rw [hL, hL2] at HTC0
        have HTC : Hid (∀ A (kA : Ex w A) (bs be bt : Nat), A.cell? ⟨bs, 1, none⟩ = some (I F) → A.cell? ⟨bs, 2, none⟩ = some (.slice pa L pc) → A.cell? ⟨bs, 3, none⟩ = some (.slice qa L2 qc) → bs < A.heap.size → A.cell? ⟨be, 0, none⟩ = some (I (F + L : Nat)) → be < A.heap.size → ∀ w', InvT A bt (fun _ => False) 0 w' →
            Calls Tryd.prog 64 #[I 0, I T, .func (.func 107) #[] #[.pointer (some ⟨bs, 0, none⟩), .pointer (some ⟨be, 0, none⟩), .pointer (some ⟨bt, 0, none⟩)]] w' (PostC (InvT A bt) (fun _ => False) r.2 w' (.agg (rowB 32 (dF r.1))))) := Lib.hid fun A kA bs be bt h1 h2 h3 h4 h5 h6 w' hI => by
          have := HTC0 A kA bs be bt h1 h2 h3 h4 h5 h6 T (by omega) (by omega) w' hI
          rwa [hr] at this
        rw [hr, hL2]
        rw [hL] at HC c4t c4u c5t v1 o4 o5 ⊢
        have hpos : 1 ≤ T := by omega
        clear hr hok o6 hps hqs h0 hl0 HTC0 hL hL2 hpc hqc
        obtain ⟨rd, rk⟩ := r
        simp only at HTC ⊢
        have HKr : Hid (∀ w', Ex w w' → Calls Tryd.prog 63 #[I T, .agg (rowB 32 (dF rd))] w' (Post w' (.agg (rowB 32 (dF (crownD T rd)))))) := Lib.hid fun w' k => HK.out T rd w' k
        generalize crownD T rd = z at HKr ⊢
        have hmf : ∀ (fn : Fn) (first cap : Array Value) (w : World), (Instr.makeFunc fn first cap).run Tryd.prog w = .ok (.func fn first cap) w := fun _ _ _ _ => rfl
        by_cases hk : rk = L2
        · subst hk
          rw [if_pos rfl]
          simp only [Option.getD_some, errT, Option.isSome_some, if_true]
          have v3 : ((rk : Int) == rk) = true := beq_self_eq_true _
          go_enter Tryd.func66, Tryd.ntmps66
          go_wp2_with (first | (go_at_call 62; (with_reducible refine (HC.out _ (by (try show Ex _ _); with_reducible repeat (first | exact ex_refl _ | assumption | refine ex_drewL ?_ | refine ex_appR ?_ _ | refine ex_wx ?_ _ | refine ex_drew ?_ | refine ex_alloc ?_ _))).mono ?_); rintro e w2 ⟨rfl, X, rfl⟩) | (go_at_call 106; (with_reducible refine (top1_any _).mono ?_); rintro e w2 ⟨rfl, X5, rfl⟩) | (go_at_call 63; (with_reducible refine (HKr.out _ (by (try show Ex _ _); with_reducible repeat (first | exact ex_refl _ | assumption | refine ex_drewL ?_ | refine ex_appR ?_ _ | refine ex_wx ?_ _ | refine ex_drew ?_ | refine ex_alloc ?_ _))).mono ?_); rintro e w2 ⟨rfl, X5, rfl⟩) | (go_at_call 64; obtain ⟨A, hA⟩ : ∃ A, A = ((wx ((w.alloc (.cells #[I T, I F, .slice pa L pc, .slice qa rk qc] 27)).alloc (.cells (rowB 32 fun _ => 0) 46)) X).alloc (.cells #[I ((F : Int) + L)] 3)) := ⟨_, rfl⟩; obtain ⟨g1, g2, g3, g4, g5, g6, g7, g8, g9, g10⟩ := top_start w X hA; rw [← hA]; refine (HTC.out A g1 w.heap.size (w.heap.size + 1 + 1 + X.blocks.length) (w.heap.size + 1 + 1 + X.blocks.length + 1) g3 g4 g5 g6 g7 g8 _ g9).mono ?_; rintro e w9 ⟨rfl, _, hI9⟩; obtain ⟨y1, y2, y3, y4, y5, y6, y7, y8⟩ := top_end g1 hI9 (b2 := w.heap.size + 1) (by omega) g10; have q3 := ex_cell hI9.ex g5 g6; have q0 := ex_cell hI9.ex g2 g6; have q9 : w.heap.size < w9.heap.size := (by omega); replace y6 := Lib.hid y6; replace y7 := Lib.hid y7; clear g1 g2 g3 g4 g5 g6 g7 g8 g9 g10 hI9 hA))
          exact ret_rowV (cs := rowB 32 (dF z)) (v := I 0) Tryd.results66 Tryd.underlying46 rfl info_id rfl (by have y9 := y7.out; simp [go_sem, y9, setCells_sizeR]; (repeat (first | rw [if_pos (by omega)] | rw [if_neg (by omega)])); try exact y9 _) rfl rfl (post_mk rfl (ex_wx (ex_alloc (y6.out _) _) _))
        · have v3 : ((rk : Int) == L2) = false := beq_eq_false_iff_ne.2 (by omega)
          have HK2 := Lib.hid hk
          rw [if_neg hk]
          simp only [Option.getD_none, errT, Option.isSome_none, Bool.false_eq_true, if_false]
          rw [row_zero]
          clear hk
          go_enter Tryd.func66, Tryd.ntmps66
          go_wp2_with (first | (go_at_call 62; (with_reducible refine (HC.out _ (by (try show Ex _ _); with_reducible repeat (first | exact ex_refl _ | assumption | refine ex_drewL ?_ | refine ex_appR ?_ _ | refine ex_wx ?_ _ | refine ex_drew ?_ | refine ex_alloc ?_ _))).mono ?_); rintro e w2 ⟨rfl, X, rfl⟩) | (go_at_call 106; (with_reducible refine (top1_any _).mono ?_); rintro e w2 ⟨rfl, X5, rfl⟩) | (go_at_call 63; (with_reducible refine (HKr.out _ (by (try show Ex _ _); with_reducible repeat (first | exact ex_refl _ | assumption | refine ex_drewL ?_ | refine ex_appR ?_ _ | refine ex_wx ?_ _ | refine ex_drew ?_ | refine ex_alloc ?_ _))).mono ?_); rintro e w2 ⟨rfl, X5, rfl⟩) | (go_at_call 64; obtain ⟨A, hA⟩ : ∃ A, A = ((wx ((w.alloc (.cells #[I T, I F, .slice pa L pc, .slice qa L2 qc] 27)).alloc (.cells (rowB 32 fun _ => 0) 46)) X).alloc (.cells #[I ((F : Int) + L)] 3)) := ⟨_, rfl⟩; obtain ⟨g1, g2, g3, g4, g5, g6, g7, g8, g9, g10⟩ := top_start w X hA; rw [← hA]; refine (HTC.out A g1 w.heap.size (w.heap.size + 1 + 1 + X.blocks.length) (w.heap.size + 1 + 1 + X.blocks.length + 1) g3 g4 g5 g6 g7 g8 _ g9).mono ?_; rintro e w9 ⟨rfl, _, hI9⟩; obtain ⟨y1, y2, y3, y4, y5, y6, y7, y8⟩ := top_end g1 hI9 (b2 := w.heap.size + 1) (by omega) g10; have q3 := ex_cell hI9.ex g5 g6; have q0 := ex_cell hI9.ex g2 g6; have q9 : w.heap.size < w9.heap.size := (by omega); replace y6 := Lib.hid y6; replace y7 := Lib.hid y7; clear g1 g2 g3 g4 g5 g6 g7 g8 g9 g10 hI9 hA))
          exact ret_rowV (cs := rowB 32 fun _ => 0) (v := I 251) Tryd.results66 Tryd.underlying46 rfl info_id rfl (by have y9 := y7.out; simp [go_sem, y9, setCells_sizeR]; (repeat (first | rw [if_pos (by omega)] | rw [if_neg (by omega)])); try exact y9 _) rfl rfl (post_mk rfl (ex_wx (ex_alloc (y6.out _) _) _))
  · have hx : topS t f ps qs = none := by unfold topS; rw [if_neg hok]
    rw [hx]
    simp only [Option.getD_none, errT, Option.isSome_none, Bool.false_eq_true, if_false]
    rw [row_zero]
    unfold okS at hok
    unfold chkP at HC
    cases hr : rightP ps with
    | false =>
      rw [hr] at HC
      simp only [Bool.false_eq_true, if_false] at HC
      generalize ps.length = L at *
      generalize qs.length = L2 at *
      clear hok hps hqs hx
      by_cases c1 : t < 0
      · have c1t := decide_eq_true c1
        go_enter Tryd.func66, Tryd.ntmps66
        go_wp2_with (first | (go_at_call 62; (with_reducible refine (HC.out _ (by (try show Ex _ _); with_reducible repeat (first | exact ex_refl _ | assumption | refine ex_drewL ?_ | refine ex_appR ?_ _ | refine ex_wx ?_ _ | refine ex_drew ?_ | refine ex_alloc ?_ _))).mono ?_); rintro e w2 ⟨rfl, X, rfl⟩) | (go_at_call 106; (with_reducible refine (top1_any _).mono ?_); rintro e w2 ⟨rfl, X, rfl⟩))
        exact ret_rowV (cs := rowB 32 fun _ => 0) (v := I 251) Tryd.results66 Tryd.underlying46 rfl info_id rfl (by simp [go_sem]) rfl rfl (post_mk rfl (by (try show Ex _ _); with_reducible repeat (first | exact ex_refl _ | assumption | refine ex_drewL ?_ | refine ex_appR ?_ _ | refine ex_wx ?_ _ | refine ex_drew ?_ | refine ex_alloc ?_ _)))
      · have c1t := decide_eq_false c1
        by_cases c2 : 200 < t
        · have c2t := decide_eq_true c2
          go_enter Tryd.func66, Tryd.ntmps66
          go_wp2_with (first | (go_at_call 62; (with_reducible refine (HC.out _ (by (try show Ex _ _); with_reducible repeat (first | exact ex_refl _ | assumption | refine ex_drewL ?_ | refine ex_appR ?_ _ | refine ex_wx ?_ _ | refine ex_drew ?_ | refine ex_alloc ?_ _))).mono ?_); rintro e w2 ⟨rfl, X, rfl⟩) | (go_at_call 106; (with_reducible refine (top1_any _).mono ?_); rintro e w2 ⟨rfl, X, rfl⟩))
          exact ret_rowV (cs := rowB 32 fun _ => 0) (v := I 251) Tryd.results66 Tryd.underlying46 rfl info_id rfl (by simp [go_sem]) rfl rfl (post_mk rfl (by (try show Ex _ _); with_reducible repeat (first | exact ex_refl _ | assumption | refine ex_drewL ?_ | refine ex_appR ?_ _ | refine ex_wx ?_ _ | refine ex_drew ?_ | refine ex_alloc ?_ _)))
        · have c2t := decide_eq_false c2
          by_cases c3 : f < 0
          · have c3t := decide_eq_true c3
            go_enter Tryd.func66, Tryd.ntmps66
            go_wp2_with (first | (go_at_call 62; (with_reducible refine (HC.out _ (by (try show Ex _ _); with_reducible repeat (first | exact ex_refl _ | assumption | refine ex_drewL ?_ | refine ex_appR ?_ _ | refine ex_wx ?_ _ | refine ex_drew ?_ | refine ex_alloc ?_ _))).mono ?_); rintro e w2 ⟨rfl, X, rfl⟩) | (go_at_call 106; (with_reducible refine (top1_any _).mono ?_); rintro e w2 ⟨rfl, X, rfl⟩))
            exact ret_rowV (cs := rowB 32 fun _ => 0) (v := I 251) Tryd.results66 Tryd.underlying46 rfl info_id rfl (by simp [go_sem]) rfl rfl (post_mk rfl (by (try show Ex _ _); with_reducible repeat (first | exact ex_refl _ | assumption | refine ex_drewL ?_ | refine ex_appR ?_ _ | refine ex_wx ?_ _ | refine ex_drew ?_ | refine ex_alloc ?_ _)))
          · have c3t := decide_eq_false c3
            by_cases c4 : t < L
            · have c4t := decide_eq_true c4
              go_enter Tryd.func66, Tryd.ntmps66
              go_wp2_with (first | (go_at_call 62; (with_reducible refine (HC.out _ (by (try show Ex _ _); with_reducible repeat (first | exact ex_refl _ | assumption | refine ex_drewL ?_ | refine ex_appR ?_ _ | refine ex_wx ?_ _ | refine ex_drew ?_ | refine ex_alloc ?_ _))).mono ?_); rintro e w2 ⟨rfl, X, rfl⟩) | (go_at_call 106; (with_reducible refine (top1_any _).mono ?_); rintro e w2 ⟨rfl, X, rfl⟩))
              exact ret_rowV (cs := rowB 32 fun _ => 0) (v := I 251) Tryd.results66 Tryd.underlying46 rfl info_id rfl (by simp [go_sem]) rfl rfl (post_mk rfl (by (try show Ex _ _); with_reducible repeat (first | exact ex_refl _ | assumption | refine ex_drewL ?_ | refine ex_appR ?_ _ | refine ex_wx ?_ _ | refine ex_drew ?_ | refine ex_alloc ?_ _)))
            · have c4t := decide_eq_false c4
              by_cases c5 : t - L < f
              · have c5t := decide_eq_true c5
                go_enter Tryd.func66, Tryd.ntmps66
                go_wp2_with (first | (go_at_call 62; (with_reducible refine (HC.out _ (by (try show Ex _ _); with_reducible repeat (first | exact ex_refl _ | assumption | refine ex_drewL ?_ | refine ex_appR ?_ _ | refine ex_wx ?_ _ | refine ex_drew ?_ | refine ex_alloc ?_ _))).mono ?_); rintro e w2 ⟨rfl, X, rfl⟩) | (go_at_call 106; (with_reducible refine (top1_any _).mono ?_); rintro e w2 ⟨rfl, X, rfl⟩))
                exact ret_rowV (cs := rowB 32 fun _ => 0) (v := I 251) Tryd.results66 Tryd.underlying46 rfl info_id rfl (by simp [go_sem]) rfl rfl (post_mk rfl (by (try show Ex _ _); with_reducible repeat (first | exact ex_refl _ | assumption | refine ex_drewL ?_ | refine ex_appR ?_ _ | refine ex_wx ?_ _ | refine ex_drew ?_ | refine ex_alloc ?_ _)))
              · have c5t := decide_eq_false c5
                go_enter Tryd.func66, Tryd.ntmps66
                go_wp2_with (first | (go_at_call 62; (with_reducible refine (HC.out _ (by (try show Ex _ _); with_reducible repeat (first | exact ex_refl _ | assumption | refine ex_drewL ?_ | refine ex_appR ?_ _ | refine ex_wx ?_ _ | refine ex_drew ?_ | refine ex_alloc ?_ _))).mono ?_); rintro e w2 ⟨rfl, X, rfl⟩) | (go_at_call 106; (with_reducible refine (top1_any _).mono ?_); rintro e w2 ⟨rfl, X, rfl⟩))
                exact ret_rowV (cs := rowB 32 fun _ => 0) (v := I 251) Tryd.results66 Tryd.underlying46 rfl info_id rfl (by simp [go_sem]) rfl rfl (post_mk rfl (by (try show Ex _ _); with_reducible repeat (first | exact ex_refl _ | assumption | refine ex_drewL ?_ | refine ex_appR ?_ _ | refine ex_wx ?_ _ | refine ex_drew ?_ | refine ex_alloc ?_ _)))
    | true =>
      rw [hr] at HC hok
      simp only [if_true] at HC
      generalize ps.length = L at *
      generalize qs.length = L2 at *
      clear hps hqs hx
      by_cases c1 : t < 0
      · have c1t := decide_eq_true c1
        clear hok
        go_enter Tryd.func66, Tryd.ntmps66
        go_wp2_with (first | (go_at_call 62; (with_reducible refine (HC.out _ (by (try show Ex _ _); with_reducible repeat (first | exact ex_refl _ | assumption | refine ex_drewL ?_ | refine ex_appR ?_ _ | refine ex_wx ?_ _ | refine ex_drew ?_ | refine ex_alloc ?_ _))).mono ?_); rintro e w2 ⟨rfl, X, rfl⟩) | (go_at_call 106; (with_reducible refine (top1_any _).mono ?_); rintro e w2 ⟨rfl, X, rfl⟩))
        exact ret_rowV (cs := rowB 32 fun _ => 0) (v := I 251) Tryd.results66 Tryd.underlying46 rfl info_id rfl (by simp [go_sem]) rfl rfl (post_mk rfl (by (try show Ex _ _); with_reducible repeat (first | exact ex_refl _ | assumption | refine ex_drewL ?_ | refine ex_appR ?_ _ | refine ex_wx ?_ _ | refine ex_drew ?_ | refine ex_alloc ?_ _)))
      · have c1t := decide_eq_false c1
        by_cases c2 : 200 < t
        · have c2t := decide_eq_true c2
          clear hok
          go_enter Tryd.func66, Tryd.ntmps66
          go_wp2_with (first | (go_at_call 62; (with_reducible refine (HC.out _ (by (try show Ex _ _); with_reducible repeat (first | exact ex_refl _ | assumption | refine ex_drewL ?_ | refine ex_appR ?_ _ | refine ex_wx ?_ _ | refine ex_drew ?_ | refine ex_alloc ?_ _))).mono ?_); rintro e w2 ⟨rfl, X, rfl⟩) | (go_at_call 106; (with_reducible refine (top1_any _).mono ?_); rintro e w2 ⟨rfl, X, rfl⟩))
          exact ret_rowV (cs := rowB 32 fun _ => 0) (v := I 251) Tryd.results66 Tryd.underlying46 rfl info_id rfl (by simp [go_sem]) rfl rfl (post_mk rfl (by (try show Ex _ _); with_reducible repeat (first | exact ex_refl _ | assumption | refine ex_drewL ?_ | refine ex_appR ?_ _ | refine ex_wx ?_ _ | refine ex_drew ?_ | refine ex_alloc ?_ _)))
        · have c2t := decide_eq_false c2
          by_cases c3 : f < 0
          · have c3t := decide_eq_true c3
            clear hok
            go_enter Tryd.func66, Tryd.ntmps66
            go_wp2_with (first | (go_at_call 62; (with_reducible refine (HC.out _ (by (try show Ex _ _); with_reducible repeat (first | exact ex_refl _ | assumption | refine ex_drewL ?_ | refine ex_appR ?_ _ | refine ex_wx ?_ _ | refine ex_drew ?_ | refine ex_alloc ?_ _))).mono ?_); rintro e w2 ⟨rfl, X, rfl⟩) | (go_at_call 106; (with_reducible refine (top1_any _).mono ?_); rintro e w2 ⟨rfl, X, rfl⟩))
            exact ret_rowV (cs := rowB 32 fun _ => 0) (v := I 251) Tryd.results66 Tryd.underlying46 rfl info_id rfl (by simp [go_sem]) rfl rfl (post_mk rfl (by (try show Ex _ _); with_reducible repeat (first | exact ex_refl _ | assumption | refine ex_drewL ?_ | refine ex_appR ?_ _ | refine ex_wx ?_ _ | refine ex_drew ?_ | refine ex_alloc ?_ _)))
          · have c3t := decide_eq_false c3
            by_cases c4 : t < L
            · have c4t := decide_eq_true c4
              clear hok
              go_enter Tryd.func66, Tryd.ntmps66
              go_wp2_with (first | (go_at_call 62; (with_reducible refine (HC.out _ (by (try show Ex _ _); with_reducible repeat (first | exact ex_refl _ | assumption | refine ex_drewL ?_ | refine ex_appR ?_ _ | refine ex_wx ?_ _ | refine ex_drew ?_ | refine ex_alloc ?_ _))).mono ?_); rintro e w2 ⟨rfl, X, rfl⟩) | (go_at_call 106; (with_reducible refine (top1_any _).mono ?_); rintro e w2 ⟨rfl, X, rfl⟩))
              exact ret_rowV (cs := rowB 32 fun _ => 0) (v := I 251) Tryd.results66 Tryd.underlying46 rfl info_id rfl (by simp [go_sem]) rfl rfl (post_mk rfl (by (try show Ex _ _); with_reducible repeat (first | exact ex_refl _ | assumption | refine ex_drewL ?_ | refine ex_appR ?_ _ | refine ex_wx ?_ _ | refine ex_drew ?_ | refine ex_alloc ?_ _)))
            · have c4t := decide_eq_false c4
              have c5 : t - L < f := by
                by_cases h : t - L < f
                · exact h
                · exact absurd ⟨by omega, by omega, by omega, by omega, by omega, rfl⟩ hok
              have c5t := decide_eq_true c5
              clear hok
              go_enter Tryd.func66, Tryd.ntmps66
              go_wp2_with (first | (go_at_call 62; (with_reducible refine (HC.out _ (by (try show Ex _ _); with_reducible repeat (first | exact ex_refl _ | assumption | refine ex_drewL ?_ | refine ex_appR ?_ _ | refine ex_wx ?_ _ | refine ex_drew ?_ | refine ex_alloc ?_ _))).mono ?_); rintro e w2 ⟨rfl, X, rfl⟩) | (go_at_call 106; (with_reducible refine (top1_any _).mono ?_); rintro e w2 ⟨rfl, X, rfl⟩))
              exact ret_rowV (cs := rowB 32 fun _ => 0) (v := I 251) Tryd.results66 Tryd.underlying46 rfl info_id rfl (by simp [go_sem]) rfl rfl (post_mk rfl (by (try show Ex _ _); with_reducible repeat (first | exact ex_refl _ | assumption | refine ex_drewL ?_ | refine ex_appR ?_ _ | refine ex_wx ?_ _ | refine ex_drew ?_ | refine ex_alloc ?_ _)))
end Go.Proofs.YtcdocklbpfdmeaaDoor
