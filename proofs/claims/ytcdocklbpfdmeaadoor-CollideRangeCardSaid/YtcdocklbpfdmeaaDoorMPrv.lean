import Derived.Test.YtcdocklbpfdmeaaDoorMPrv1
import Derived.Test.YtcdocklbpfdmeaaDoorMBelow
import Derived.Test.YtcdocklbpfdmeaaDoorMSeq

/- Prove: the span of a range. -/
set_option linter.unusedSimpArgs false
set_option linter.unusedVariables false
set_option maxRecDepth 20000
namespace Go.Proofs.YtcdocklbpfdmeaaDoor
open Go.RowKit
theorem info_span : (Tryd.prog.info? 27).map (·.size) = some 4 := by kernel_rfl
@[go_sem] theorem load_span (b o : Nat) (w : World) : loadRun Tryd.prog 27 (.pointer (some ⟨b, o, none⟩)) w = match cellsN w b o 4 with | some cs => .ok (.value (.agg cs)) w | none => loadRaw Tryd.prog 27 (.pointer (some ⟨b, o, none⟩)) w := loadRun_row Tryd.underlying27 rfl info_span b o w
@[go_sem] theorem store_span (b o : Nat) (vs : Array Value) (w : World) : storeRun Tryd.prog 27 (.pointer (some ⟨b, o, none⟩)) (.agg vs) w = if (vs.size == 4 && (cellsN w b o 4).isSome && !frozenN w b o 4 && oneCells vs) = true then .ok .skip (w.setCells b o vs.toList) else storeRaw Tryd.prog 27 (.pointer (some ⟨b, o, none⟩)) (.agg vs) w := storeRun_row info_span b o vs w
@[go_sem high] theorem eqlnil_cell (a : Option Addr) (n c : Nat) (w : World) : (binOp .eql 22 (.slice a n c) (.slice none 0 0)).run Tryd.prog w = .ok (.bool a.isNone) w := _root_.Go.run_eql_slice_nil w _ _ a n c Tryd.underlying22
/-- Pairs of the call's own, handed back. -/
def PostOP (W : World) (l : List Pr) (e : Ending) (w' : World) : Prop := ∃ v, e = .returned v ∧ OwnP w' W.heap.size v l ∧ ∃ X, w' = wx W X
theorem cloneP_any (l : List Pr) (a : Option Addr) (c : Nat) (w : World) (hl : l.length ≤ 1000) (hc : l.length ≤ c) (hcm : c ≤ maxLen) (ha : a = none → c = 0) (hs : SlP w a l) :
    Calls Tryd.prog 68 #[.slice a l.length c] w (PostOP w l) := by
  unfold maxLen at hcm
  cases a with
  | none =>
    obtain rfl := ha rfl
    obtain rfl : l = [] := List.eq_nil_of_length_eq_zero (by omega)
    rw [List.length_nil]
    go_enter Tryd.func68, Tryd.ntmps68
    go_wp2
    go_ret
    exact ⟨_, rfl, ownp_nil _ _, (by (try show Ex _ _); with_reducible repeat (first | exact ex_refl _ | assumption | refine ex_drewL ?_ | refine ex_appR ?_ _ | refine ex_wx ?_ _ | refine ex_drew ?_ | refine ex_alloc ?_ _))⟩
  | some ad =>
    clear ha
    obtain ⟨n, hn⟩ : ∃ n, l.length = n := ⟨_, rfl⟩
    have HR : Hid (n = l.length) := Lib.hid hn.symm
    rw [hn] at hl hc ⊢
    clear hn
    have e2 : (n : Int) ≤ c := by omega
    go_enter Tryd.func68, Tryd.ntmps68
    go_wp2_with (at_builtin; refine wpAppP _ _ rfl rfl (ownp_empty (Z := w.heap.size) (by (try show Ex _ _); with_reducible repeat (first | exact ex_refl _ | assumption | refine ex_drewL ?_ | refine ex_appR ?_ _ | refine ex_wx ?_ _ | refine ex_drew ?_ | refine ex_alloc ?_ _)) (by simp [go_sem]) (by simp [go_sem])) rfl rfl HR.out (hs.ex (by (try show Ex _ _); with_reducible repeat (first | exact ex_refl _ | assumption | refine ex_drewL ?_ | refine ex_appR ?_ _ | refine ex_wx ?_ _ | refine ex_drew ?_ | refine ex_alloc ?_ _))) (by have := HR.out; simp; omega) (by simp [go_sem]) (fun v1 w1 hown hbe => ?_); obtain ⟨X1, rfl⟩ := exOf (A := w) (by (try show Ex _ _); with_reducible repeat (first | exact ex_refl _ | assumption | refine ex_drewL ?_ | refine ex_appR ?_ _ | refine ex_wx ?_ _ | refine ex_drew ?_ | refine ex_alloc ?_ _)) hbe)
    go_ret
    exact ⟨_, rfl, by simpa using hown, (by (try show Ex _ _); with_reducible repeat (first | exact ex_refl _ | assumption | refine ex_drewL ?_ | refine ex_appR ?_ _ | refine ex_wx ?_ _ | refine ex_drew ?_ | refine ex_alloc ?_ _))⟩
def firstP (l : List Pr) (r : Rg) : Nat := belowN l r.lo - 1
def endP (l : List Pr) (r : Rg) : Nat := min ((if r.op then l.length else max (belowN l r.lo) (belowN l r.hi)) + 1) l.length
def pairsP (l : List Pr) (r : Rg) : List Pr := (l.drop (firstP l r)).take (endP l r - firstP l r)
def pathS (l : List Pr) (r : Rg) : List Dg := if l.length = 0 then [] else (treeD (FP l (firstP l r) (endP l r)) 0 l.length []).2
theorem first_end (l : List Pr) (r : Rg) : firstP l r ≤ endP l r ∧ endP l r ≤ l.length ∧ (0 < l.length → firstP l r < l.length) := by
  have h1 := below_le l r.lo
  have h2 := below_le l r.hi
  unfold firstP endP
  split <;> omega
theorem pairs_len (l : List Pr) (r : Rg) : (pairsP l r).length = endP l r - firstP l r := by
  have := first_end l r
  unfold pairsP
  rw [List.length_take, List.length_drop]; omega
/-- A span that was made. -/
def PostSp (W : World) (t f : Int) (ps : List Pr) (qs : List Dg) (err : Int) (e : Ending) (w' : World) : Prop := ∃ pa pc qa qc, e = .returned (.tuple #[.agg #[I t, I f, .slice pa ps.length pc, .slice qa qs.length qc], I err]) ∧
  (ps.length ≤ pc ∧ pc ≤ maxLen ∧ (pa = none → pc = 0) ∧ SlP w' pa ps) ∧ (qs.length ≤ qc ∧ qc ≤ maxLen ∧ (qa = none → qc = 0) ∧ SlD w' qa qs) ∧ ∃ X, w' = wx W X
theorem own_type {w : World} {Z : Nat} {t : TypeId} {s : Nat} {v : Value} {n : Nat} {xs : List Value} (h : w.ownsRow Z t s v n xs) {b : Nat} {cs : Array Value} {t2 : TypeId} {fr : Nat × Nat} (hb : w.heap[b]? = some (.cells cs t2 fr)) (ht : t ≠ t2) : v.ownBlock ≠ some b := by
  intro e
  rcases h.2 with ⟨rfl, _⟩ | ⟨g, cap, cur, rfl, _, h4, _⟩
  · cases e
  · have : g = b := Option.some.inj e
    subst this
    rw [h4] at hb
    injection hb with hb
    injection hb with _ h5
    exact ht h5
theorem invP_start {w8 wB : World} {bs Z : Nat} {pv : Value} {ps : List Pr} (k : Ex w8 wB) (hbs : w8.heap.size ≤ bs) {z0 z1 z2 z3 : Value} (hq : wB.heap[bs]? = some (.cells #[z0, z1, z2, z3] 27 (0, 0))) (hown : OwnP wB Z pv ps) (hZ : w8.heap.size ≤ Z) (c0 c1 : Value) :
    InvP w8 bs c0 c1 pv (fun b => pv.ownBlock = some b) [] (wB.setCells bs 0 [c0, c1, pv, .slice none 0 0]) := by
  refine ⟨ex_setCells k hbs _ _, fun b hb => ?_, hbs, .slice none 0 0, ?_, ownd_nil _ _, fun g hg => by cases hg⟩
  · have h1 := hown.lt b hb
    refine ⟨by omega, by rw [setCells_size]; exact h1.2, fun e => ?_⟩
    subst e
    exact own_type hown hq (by decide) hb
  · have := setCells_block bs 27 (0, 0) [c0, c1, pv, .slice none 0 0] 0 _ _ hq
    exact this
theorem prove_end {w w8 wB w9 : World} {bs Z b4 : Nat} {c0 c1 pv : Value} {ps : List Pr} {qs : List Dg} {z4 : Array Value} (k8 : Ex w w8) (h4 : w.heap.size ≤ b4) (hb4 : w8.heap[b4]? = some (.cells z4 27 (0, 0))) (hz4 : z4.size = 4)
    (hown : OwnP wB Z pv ps) (hZ : w8.heap.size ≤ Z) (hbs : w8.heap.size ≤ bs) {vs0 : List Value} {p : Nat → Prop} (hp : ∀ b, pv.ownBlock = some b → p b ∧ b ≠ bs) (hH : HeldP p (wB.setCells bs 0 vs0) w9) (hI : InvP w8 bs c0 c1 pv p qs w9) :
    ∃ qa qc, cellsN w9 bs 0 4 = some #[c0, c1, pv, .slice qa qs.length qc] ∧ cellsN w9 b4 0 4 = some z4 ∧ frozenN w9 b4 0 4 = false ∧ qs.length ≤ qc ∧ qc ≤ maxLen ∧ (qa = none → qc = 0) ∧
      ∀ vs : List Value, vs.length = 4 → Ex w (w9.setCells b4 0 vs) ∧ cellsN (w9.setCells b4 0 vs) b4 0 4 = some vs.toArray ∧ OwnP (w9.setCells b4 0 vs) Z pv ps ∧ SlD (w9.setCells b4 0 vs) qa qs := by
  have hb9 := ex_block hI.ex hb4
  obtain ⟨e1, e2, e3⟩ := block_cells hb9 hz4
  have hlt8 : b4 < w8.heap.size := (Array.getElem?_eq_some_iff.1 hb4).1
  obtain ⟨v, r1, r2, _⟩ := hI.row
  obtain ⟨qa, qc, rfl, q1, q2, q3, q4⟩ := r2.slg
  refine ⟨qa, qc, (block_cells r1 rfl).1, e1, e2, q1, q2, q3, fun vs hvs => ⟨ex_setCells (ex_trans k8 hI.ex) h4 _ _, ?_, ?_, ?_⟩⟩
  · have := setCells_block b4 27 (0, 0) vs 0 _ _ hb9
    rw [spliceA_all _ _ (by rw [hvs, hz4])] at this
    exact (block_cells this (by simpa using hvs)).1
  · refine own_kept hown fun g hg => ?_
    obtain ⟨h1, h2⟩ := hp g hg
    have h3 := hown.lt g hg
    rw [setCells_heap _ _ _ _ _ (by omega), hH.same g h1, setCells_heap _ _ _ _ _ h2]
  · have : OwnD (w9.setCells b4 0 vs) (bs + 1) (.slice qa qs.length qc) qs := own_kept r2 fun g hg => by
      have h3 := r2.lt g hg
      exact setCells_heap _ _ _ _ _ (by omega)
    obtain ⟨qa2, qc2, he, _, _, _, h⟩ := OwnD.slg this
    cases he
    exact h
theorem prove_climb {w : World} (G : Glob w) (l : List Pr) (a : Option Addr) (c F E : Nat) (w1 : World) (hL : l.length ≤ 1000) (hc : l.length ≤ c) (hcm : c ≤ maxLen) (hs : SlP w a l) (hpos : 0 < l.length) (A : World) (bf be bl bs : Nat) (c0 c1 c2 : Value) (w' : World) (kA : Ex w A)
    (hbf : A.cell? ⟨bf, 0, none⟩ = some (I F)) (hbe : A.cell? ⟨be, 0, none⟩ = some (I E)) (hbl : A.cell? ⟨bl, 0, none⟩ = some (.slice a l.length c)) (h1 : bf < A.heap.size) (h2 : be < A.heap.size) (h3 : bl < A.heap.size) (p : Nat → Prop) (hI : InvP A bs c0 c1 c2 p [] w') :
    Calls Tryd.prog 64 #[I 0, I l.length, .func (.func 69) #[] #[.pointer (some ⟨bf, 0, none⟩), .pointer (some ⟨be, 0, none⟩), .pointer (some ⟨bl, 0, none⟩), .pointer (some ⟨bs, 0, none⟩)]] w'
      (PostC (InvP A bs c0 c1 c2) p (treeD (FP l F E) 0 l.length []).2 w' (.agg (rowB 32 (dF (treeD (FP l F E) 0 l.length []).1)))) := by
  have h := climbT_any (invP_ok (G.ex kA) bs c0 c1 c2) (FP l F E) 69 #[.pointer (some ⟨bf, 0, none⟩), .pointer (some ⟨be, 0, none⟩), .pointer (some ⟨bl, 0, none⟩), .pointer (some ⟨bs, 0, none⟩)] l.length hL (fun _ _ => by simp [go_sem])
    (fun at_ s => by unfold FP; split; rfl; rw [if_pos rfl]; rfl) (fun at_ s => s.length ≤ at_) (fun at_ n s hn hq _ => by unfold FP; split; (simp; omega); split <;> simp <;> omega) (fun at_ n s hq _ => by unfold FP; split; simp_all [FP]; split <;> simp <;> omega)
    (fun p at_ n s w2 hn hat hq hI2 => prove1_any (G.ex kA) l a c bf be bl bs F E c0 c1 c2 hL hc hcm (hs.ex kA) ⟨hbf, h1⟩ ⟨hbe, h2⟩ ⟨hbl, h3⟩ at_ n hn hat s hq p w2 hI2)
    l.length 0 [] p w' hpos (by omega) (by simp) hI
  exact h
theorem wp_world {P : Program} {c : Code} {Q : Exit → Act → World → Prop} {a : Act} {w : World} (h : ∀ w8, w = w8 → c.wp P Q a w8) : c.wp P Q a w := h w rfl
set_option maxHeartbeats 2000000 in
theorem prove_any {w0 : World} (G : Glob w0) (l : List Pr) (r : Rg) (a : Option Addr) (c : Nat) (w : World) (k0 : Ex w0 w) (hc : l.length ≤ c) (hcm : c ≤ maxLen) (ha : a = none → c = 0) (hs : SlP w a l) (hr : rightP l = true) :
    Calls Tryd.prog 21 #[.slice a l.length c, .agg (RC r)] w (PostSp w l.length (firstP l r) (pairsP l r) (pathS l r) 0) := by
  replace G := G.ex k0
  clear k0
  have GW := Lib.hid G
  have hL := right_len hr
  obtain ⟨fe1, fe2, fe3⟩ := first_end l r
  have HC : Hid (∀ w', Ex w w' → Calls Tryd.prog 62 #[.slice a l.length c] w' (Post w' (I 0))) := Lib.hid fun w' k => by
    have := Check_any l a c w' hc hcm (hs.ex k)
    unfold chkP at this
    rwa [if_pos hr] at this
  have HB : Hid (∀ k w', Ex w w' → Calls Tryd.prog 67 #[.slice a l.length c, .string k] w' (Post w' (I (belowN l k)))) := Lib.hid fun k w' kx => below_any l k a c w' hr hc hcm (hs.ex kx)
  obtain ⟨lo, hi, op⟩ := r
  have HB0 : Hid (∀ w', Ex w w' → Calls Tryd.prog 67 #[.slice a l.length c, .string lo] w' (Post w' (I (belowN l lo)))) := Lib.hid fun w' kx => HB.out lo w' kx
  have HB1 : Hid (∀ w', Ex w w' → Calls Tryd.prog 67 #[.slice a l.length c, .string hi] w' (Post w' (I (belowN l hi)))) := Lib.hid fun w' kx => HB.out hi w' kx
  have HF : max ((belowN l lo : Int) - 1) 0 = (firstP l ⟨lo, hi, op⟩ : Int) := by unfold firstP; simp only; omega
  have HE : (min ((if op then (l.length : Int) else max (belowN l lo : Int) (belowN l hi)) + 1) l.length : Int) = endP l ⟨lo, hi, op⟩ := by unfold endP; simp only; split <;> omega
  have HP1 := pairs_len l ⟨lo, hi, op⟩
  clear HB
  cases op
  · simp only [Bool.false_eq_true, if_false] at HE
    have m1 := below_le l lo
    have m2 := below_le l hi
    obtain ⟨m, hm⟩ : ∃ m : Nat, max (belowN l lo : Int) (belowN l hi) = m := ⟨max (belowN l lo) (belowN l hi), by omega⟩
    have hm2 : m ≤ 200 := by omega
    rw [hm] at HE
    unfold RC
    simp only
    generalize belowN l lo = f0 at *
    generalize belowN l hi = h0 at *
    have HFE := Lib.hid (And.intro fe1 (And.intro fe2 fe3))
    go_enter Tryd.func21, Tryd.ntmps21
    have hmf : ∀ (fn : Fn) (first cap : Array Value) (w : World), (Instr.makeFunc fn first cap).run Tryd.prog w = .ok (.func fn first cap) w := fun _ _ _ _ => rfl
    go_wp2_with (first | (go_at_call 62; (with_reducible refine (HC.out _ (by (try show Ex _ _); with_reducible repeat (first | exact ex_refl _ | assumption | refine ex_drewL ?_ | refine ex_appR ?_ _ | refine ex_wx ?_ _ | refine ex_drew ?_ | refine ex_alloc ?_ _))).mono ?_); rintro e w2 ⟨rfl, X1, rfl⟩) | (go_at_call 67; (with_reducible refine (HB0.out _ (by (try show Ex _ _); with_reducible repeat (first | exact ex_refl _ | assumption | refine ex_drewL ?_ | refine ex_appR ?_ _ | refine ex_wx ?_ _ | refine ex_drew ?_ | refine ex_alloc ?_ _))).mono ?_); rintro e w2 ⟨rfl, X2, rfl⟩))
    refine wp_region_seqA (((wx (((w.alloc (.cells #[.slice a l.length c] 22)).alloc (.cells #[.string lo, .string hi, .bool false] 24)).alloc (.cells #[I 0, I 0, .slice none 0 0, .slice none 0 0] 27)) (X1.app X2)).alloc (.cells #[I f0] 3))) [(0, true), (1, true), (2, true), (3, true), (4, false), (5, true), (6, false)] (by (try show Ex _ _); with_reducible repeat (first | exact ex_refl _ | assumption | refine ex_drewL ?_ | refine ex_appR ?_ _ | refine ex_wx ?_ _ | refine ex_drew ?_ | refine ex_alloc ?_ _)) (by kernel_rfl) (by kernel_rfl) (fun _ _ d _ _ h => by cases d <;> exact h) ?_
    simp only [List.map_cons, List.map_nil, nth]
    repeat (first | ((with_reducible refine wpSeq_look ?_); go_big_quiet_step (fail); (with_reducible refine wpQuiet_nil ?_)) | ((with_reducible refine wpSeq_effF ?_ ?_); (focus rfl); go_simp) | ((with_reducible refine wpSeq_eff ?_ ?_); (focus rfl); (try dsimp only); go_wp2_with (go_at_call 67; (with_reducible refine (HB1.out _ (by (try show Ex _ _); with_reducible repeat (first | exact ex_refl _ | assumption | refine ex_drewL ?_ | refine ex_appR ?_ _ | refine ex_wx ?_ _ | refine ex_drew ?_ | refine ex_alloc ?_ _))).mono ?_); rintro e w2 ⟨rfl, X3, rfl⟩); refine mixQ_mk (by (try show Ex _ _); with_reducible repeat (first | exact ex_refl _ | assumption | refine ex_drewL ?_ | refine ex_appR ?_ _ | refine ex_wx ?_ _ | refine ex_drew ?_ | refine ex_alloc ?_ _)) ?_))
    refine wpSeq_nil ?_
    go_wp2
    have mixed : Tryd.prog.follows .mixedOrders = true := by kernel_rfl
    go_big_region_o
    all_goals go_wp2
    clear mixed HB0 HB1 HC HF HE
    refine wp_world fun w8 hw8 => ?_
    have k8 : Ex w w8 := by rw [← hw8]; exact (by (try show Ex _ _); with_reducible repeat (first | exact ex_refl _ | assumption | refine ex_drewL ?_ | refine ex_appR ?_ _ | refine ex_wx ?_ _ | refine ex_drew ?_ | refine ex_alloc ?_ _))
    obtain ⟨b6, hb6⟩ : ∃ b6, w.heap.size + 1 + 1 + 1 + (X1.blocks.length + X2.blocks.length) = b6 := ⟨_, rfl⟩
    have c2 : w8.cell? ⟨w.heap.size, 0, none⟩ = some (.slice a l.length c) := by rw [← hw8]; simp [go_sem] <;> first | (intros; exfalso; omega) | (repeat (first | rw [if_pos (by omega)] | rw [if_neg (by omega)]))
    have hb4 : w8.heap[w.heap.size + 1 + 1]? = some (.cells #[I 0, I 0, .slice none 0 0, .slice none 0 0] 27 (0, 0)) := by
      have h0 := heap_alloc_new ((w.alloc (.cells #[.slice a l.length c] 22)).alloc (.cells #[.string lo, .string hi, .bool false] 24)) (.cells #[I 0, I 0, .slice none 0 0, .slice none 0 0] 27)
      have h1 : ((w.alloc (.cells #[.slice a l.length c] 22)).alloc (.cells #[.string lo, .string hi, .bool false] 24)).heap.size = w.heap.size + 1 + 1 := by simp [go_sem]
      rw [← h1]
      exact ex_block (by rw [← hw8]; exact (by (try show Ex _ _); with_reducible repeat (first | exact ex_refl _ | assumption | refine ex_drewL ?_ | refine ex_appR ?_ _ | refine ex_wx ?_ _ | refine ex_drew ?_ | refine ex_alloc ?_ _))) h0
    obtain ⟨c4, c5, _⟩ := block_cells (n := 4) hb4 rfl
    have c6 : w8.cell? ⟨b6, 0, none⟩ = some (I (firstP l ⟨lo, hi, false⟩)) := by rw [← hw8, ← hb6]; simp [go_sem] <;> first | omega | (repeat (first | rw [if_pos (by omega)] | rw [if_neg (by omega)]))
    have c7 : w8.cell? ⟨b6 + 1, 0, none⟩ = some (I (endP l ⟨lo, hi, false⟩)) := by rw [← hw8, ← hb6]; simp [go_sem] <;> first | omega | (repeat (first | rw [if_pos (by omega)] | rw [if_neg (by omega)]))
    have c8 : b6 + 1 < w8.heap.size := by rw [← hw8, ← hb6]; simp [go_sem] <;> first | omega | (repeat (first | rw [if_pos (by omega)] | rw [if_neg (by omega)]))
    have c9 : w.heap.size + 1 + 1 < b6 := by rw [← hb6]; omega
    rw [hb6]
    clear hw8 hb6 X1 X2
    have E2 : ∀ b, b6 + 1 < b → b6 < b := fun b h => by omega
    rcases Nat.eq_zero_or_pos l.length with h0 | hpos
    · obtain rfl : l = [] := List.eq_nil_of_length_eq_zero h0
      have HF0 : firstP [] ⟨lo, hi, false⟩ = 0 := by have := first_end [] ⟨lo, hi, false⟩; simp at this; omega
      have HE0 : endP [] ⟨lo, hi, false⟩ = 0 := by have := first_end [] ⟨lo, hi, false⟩; simp at this; omega
      have HPL : Hid (pairsP [] ⟨lo, hi, false⟩ = []) := Lib.hid (by unfold pairsP; simp)
      have HQL : Hid (pathS [] ⟨lo, hi, false⟩ = []) := Lib.hid rfl
      have HF1 := Lib.hid HF0
      rw [HF0] at c6
      rw [HE0] at c7
      have HCl : Hid (∀ a c w', c ≤ maxLen → (a = none → c = 0) → Calls Tryd.prog 68 #[.slice a 0 c] w' (PostOP w' [])) := Lib.hid fun a c w' h1 h2 => cloneP_any [] a c w' (by simp) (by simp) h1 h2 (SlP.nil _ _)
      rw [List.length_nil] at c2 ⊢
      have HMX := Lib.hid hcm
      clear hs hr fe1 fe2 fe3 HFE HF0 HE0 HP1 E2
      cases a with
      | none =>
        obtain rfl := ha rfl
        clear ha
        refine wp_region_late [(0, true), (1, true), (2, true), (3, true), (4, true), (5, true), (6, true), (7, false), (8, true)] 10 [(9, some 8, (.cells #[I 0, I 0, .slice none 0 0, .slice none 0 0] 27))] (by kernel_rfl) (by kernel_rfl) rfl (by intro x hx ρ W; simp only [List.mem_cons, List.not_mem_nil, or_false] at hx; repeat (first | subst hx | (rcases hx with rfl | hx)); all_goals (first | (simp [nth, go_sem, ptr]; done) | (simp [nth, go_sem, ptr]; rfl))) (fun _ _ d _ _ h => by cases d <;> exact h) (fun _ _ d _ _ h => by cases d <;> exact h) ?_
        simp only [List.map_cons, List.map_nil, nth, List.drop_succ_cons, List.drop_zero, lateR]
        repeat (first | (refine wpMix_look ?_; go_big_quiet_step (fail); refine wpQuiet_nil ?_) | (refine wpMix_eff rfl (fun X1 => ?_); go_wp2_with (go_at_call 68; (refine (HCl.out _ _ _ (by first | exact HMX.out | decide) (fun h => by first | rfl | cases h)).mono ?_); rintro e wA ⟨pv, rfl, hown, XA, rfl⟩; obtain ⟨pa, pc, rfl, u1, u2, u3, _⟩ := hown.slg; replace hown := Lib.hid hown); refine mixQ_mk (by first | exact ex_refl _ | exact ⟨_, rfl⟩ | exact ex_app _ _ _ | (simp only [wx_wx, wx_drew]; first | exact ex_refl _ | exact ex_app _ _ _ | exact ⟨_, rfl⟩) | (repeat (first | exact ex_refl _ | refine ex_drew ?_ | refine ex_alloc ?_ _ | refine ex_wx ?_ _))) ?_))
        refine wpMix_nil (fun X2 => ?_)
        intro q hq
        have KB : Ex w8 (wx (wx w8 (X1.app XA)) X2) := (by (try show Ex _ _); with_reducible repeat (first | exact ex_refl _ | assumption | refine ex_drewL ?_ | refine ex_appR ?_ _ | refine ex_wx ?_ _ | refine ex_drew ?_ | refine ex_alloc ?_ _))
        obtain ⟨bs, hbs⟩ : ∃ bs, w8.heap.size + q = bs := ⟨_, rfl⟩
        have hbs2 : w8.heap.size ≤ bs := by omega
        rw [hbs] at hq ⊢
        clear hbs hown
        generalize wx (wx w8 (X1.app XA)) X2 = wB at hq KB ⊢
        obtain ⟨d1, d2, d3⟩ := block_cells (n := 4) hq rfl
        have hlt4 : w.heap.size + 1 + 1 < w8.heap.size := (Array.getElem?_eq_some_iff.1 hb4).1
        have d4 : ∀ vs, (wB.setCells bs 0 vs).cell? ⟨w.heap.size, 0, none⟩ = some _ := fun vs => ex_cell (ex_setCells KB hbs2 0 vs) c2 (by show w.heap.size < _; omega)
        have hbB : ∀ vs, (wB.setCells bs 0 vs).heap[w.heap.size + 1 + 1]? = some (.cells #[I 0, I 0, .slice none 0 0, .slice none 0 0] 27 (0, 0)) := fun vs => ex_block (ex_setCells KB hbs2 0 vs) hb4
        have d5 := fun vs => (block_cells (n := 4) (hbB vs) rfl).1
        have d6 := fun vs => (block_cells (n := 4) (hbB vs) rfl).2.1
        have d7 : cellsN (wB.setCells bs 0 [I 0, I 0, .slice pa 0 pc, .slice none 0 0]) bs 0 4 = some #[I 0, I 0, .slice pa 0 pc, .slice none 0 0] := (block_cells (n := 4) (setCells_block bs _ (0, 0) [I 0, I 0, .slice pa 0 pc, .slice none 0 0] 0 _ _ hq) rfl).1
        have HD8 : Hid (∀ vs vs2 : List Value, vs2.length = 4 → Ex w ((wB.setCells bs 0 vs).setCells (w.heap.size + 1 + 1) 0 vs2) ∧ cellsN ((wB.setCells bs 0 vs).setCells (w.heap.size + 1 + 1) 0 vs2) (w.heap.size + 1 + 1) 0 4 = some vs2.toArray) := Lib.hid fun vs vs2 hv => by
          refine ⟨ex_setCells (ex_trans k8 (ex_setCells KB hbs2 0 vs)) (by omega) _ _, ?_⟩
          have := setCells_block (w.heap.size + 1 + 1) _ (0, 0) vs2 0 _ _ (hbB vs)
          rw [spliceA_all _ _ (by rw [hv]; rfl)] at this
          exact (block_cells this (by simpa using hv)).1
        have HQ := Lib.hid hq
        have HB4 := Lib.hid hb4
        clear hq hb4 hbB
        unfold ptr
        go_wp2
        obtain ⟨x1, x2⟩ := HD8.out [I 0, I 0, .slice pa 0 pc, .slice none 0 0] [I 0, I 0, .slice pa 0 pc, .slice none 0 0] rfl
        rw [HPL.out, HQL.out, HF1.out]
        exact ret_rowV (cs := #[I 0, I 0, .slice pa 0 pc, .slice none 0 0]) (v := I 0) Tryd.results21 Tryd.underlying27 rfl info_span rfl x2 rfl rfl ⟨pa, pc, none, 0, rfl, ⟨by simp, u2, u3, SlP.nil _ _⟩, ⟨by simp, by decide, fun _ => rfl, SlD.nil _ _⟩, x1⟩
      | some ad =>
        clear ha
        by_cases hc0 : c = 0
        · subst hc0
          refine wp_region_late [(0, true), (1, true), (2, true), (3, true), (4, true), (5, true), (6, true), (7, false), (8, true)] 10 [(9, some 8, (.cells #[I 0, I 0, .slice none 0 0, .slice none 0 0] 27))] (by kernel_rfl) (by kernel_rfl) rfl (by intro x hx ρ W; simp only [List.mem_cons, List.not_mem_nil, or_false] at hx; repeat (first | subst hx | (rcases hx with rfl | hx)); all_goals (first | (simp [nth, go_sem, ptr]; done) | (simp [nth, go_sem, ptr]; rfl))) (fun _ _ d _ _ h => by cases d <;> exact h) (fun _ _ d _ _ h => by cases d <;> exact h) ?_
          simp only [List.map_cons, List.map_nil, nth, List.drop_succ_cons, List.drop_zero, lateR]
          repeat (first | (refine wpMix_look ?_; go_big_quiet_step (fail); refine wpQuiet_nil ?_) | (refine wpMix_eff rfl (fun X1 => ?_); go_wp2_with (go_at_call 68; (refine (HCl.out _ _ _ (by first | exact HMX.out | decide) (fun h => by first | rfl | cases h)).mono ?_); rintro e wA ⟨pv, rfl, hown, XA, rfl⟩; obtain ⟨pa, pc, rfl, u1, u2, u3, _⟩ := hown.slg; replace hown := Lib.hid hown); refine mixQ_mk (by first | exact ex_refl _ | exact ⟨_, rfl⟩ | exact ex_app _ _ _ | (simp only [wx_wx, wx_drew]; first | exact ex_refl _ | exact ex_app _ _ _ | exact ⟨_, rfl⟩) | (repeat (first | exact ex_refl _ | refine ex_drew ?_ | refine ex_alloc ?_ _ | refine ex_wx ?_ _))) ?_))
          refine wpMix_nil (fun X2 => ?_)
          intro q hq
          have KB : Ex w8 (wx (wx w8 (X1.app XA)) X2) := (by (try show Ex _ _); with_reducible repeat (first | exact ex_refl _ | assumption | refine ex_drewL ?_ | refine ex_appR ?_ _ | refine ex_wx ?_ _ | refine ex_drew ?_ | refine ex_alloc ?_ _))
          obtain ⟨bs, hbs⟩ : ∃ bs, w8.heap.size + q = bs := ⟨_, rfl⟩
          have hbs2 : w8.heap.size ≤ bs := by omega
          rw [hbs] at hq ⊢
          clear hbs hown
          generalize wx (wx w8 (X1.app XA)) X2 = wB at hq KB ⊢
          obtain ⟨d1, d2, d3⟩ := block_cells (n := 4) hq rfl
          have hlt4 : w.heap.size + 1 + 1 < w8.heap.size := (Array.getElem?_eq_some_iff.1 hb4).1
          have d4 : ∀ vs, (wB.setCells bs 0 vs).cell? ⟨w.heap.size, 0, none⟩ = some _ := fun vs => ex_cell (ex_setCells KB hbs2 0 vs) c2 (by show w.heap.size < _; omega)
          have hbB : ∀ vs, (wB.setCells bs 0 vs).heap[w.heap.size + 1 + 1]? = some (.cells #[I 0, I 0, .slice none 0 0, .slice none 0 0] 27 (0, 0)) := fun vs => ex_block (ex_setCells KB hbs2 0 vs) hb4
          have d5 := fun vs => (block_cells (n := 4) (hbB vs) rfl).1
          have d6 := fun vs => (block_cells (n := 4) (hbB vs) rfl).2.1
          have d7 : cellsN (wB.setCells bs 0 [I 0, I 0, .slice pa 0 pc, .slice none 0 0]) bs 0 4 = some #[I 0, I 0, .slice pa 0 pc, .slice none 0 0] := (block_cells (n := 4) (setCells_block bs _ (0, 0) [I 0, I 0, .slice pa 0 pc, .slice none 0 0] 0 _ _ hq) rfl).1
          have HD8 : Hid (∀ vs vs2 : List Value, vs2.length = 4 → Ex w ((wB.setCells bs 0 vs).setCells (w.heap.size + 1 + 1) 0 vs2) ∧ cellsN ((wB.setCells bs 0 vs).setCells (w.heap.size + 1 + 1) 0 vs2) (w.heap.size + 1 + 1) 0 4 = some vs2.toArray) := Lib.hid fun vs vs2 hv => by
            refine ⟨ex_setCells (ex_trans k8 (ex_setCells KB hbs2 0 vs)) (by omega) _ _, ?_⟩
            have := setCells_block (w.heap.size + 1 + 1) _ (0, 0) vs2 0 _ _ (hbB vs)
            rw [spliceA_all _ _ (by rw [hv]; rfl)] at this
            exact (block_cells this (by simpa using hv)).1
          have HQ := Lib.hid hq
          have HB4 := Lib.hid hb4
          clear hq hb4 hbB
          unfold ptr
          go_wp2
          obtain ⟨x1, x2⟩ := HD8.out [I 0, I 0, .slice pa 0 pc, .slice none 0 0] [I 0, I 0, .slice pa 0 pc, .slice none 0 0] rfl
          rw [HPL.out, HQL.out, HF1.out]
          exact ret_rowV (cs := #[I 0, I 0, .slice pa 0 pc, .slice none 0 0]) (v := I 0) Tryd.results21 Tryd.underlying27 rfl info_span rfl x2 rfl rfl ⟨pa, pc, none, 0, rfl, ⟨by simp, u2, u3, SlP.nil _ _⟩, ⟨by simp, by decide, fun _ => rfl, SlD.nil _ _⟩, x1⟩
        · have hc1 : ¬ (c : Int) = 0 := by omega
          refine wp_region_late [(0, true), (1, true), (2, true), (3, true), (4, true), (5, true), (6, true), (7, false), (8, true)] 10 [(9, some 8, (.cells #[I 0, I 0, .slice none 0 0, .slice none 0 0] 27))] (by kernel_rfl) (by kernel_rfl) rfl (by intro x hx ρ W; simp only [List.mem_cons, List.not_mem_nil, or_false] at hx; repeat (first | subst hx | (rcases hx with rfl | hx)); all_goals (first | (simp [nth, go_sem, ptr]; done) | (simp [nth, go_sem, ptr]; rfl))) (fun _ _ d _ _ h => by cases d <;> exact h) (fun _ _ d _ _ h => by cases d <;> exact h) ?_
          simp only [List.map_cons, List.map_nil, nth, List.drop_succ_cons, List.drop_zero, lateR]
          repeat (first | (refine wpMix_look ?_; go_big_quiet_step (fail); refine wpQuiet_nil ?_) | (refine wpMix_eff rfl (fun X1 => ?_); go_wp2_with (go_at_call 68; (refine (HCl.out _ _ _ (by first | exact HMX.out | decide) (fun h => by first | rfl | cases h)).mono ?_); rintro e wA ⟨pv, rfl, hown, XA, rfl⟩; obtain ⟨pa, pc, rfl, u1, u2, u3, _⟩ := hown.slg; replace hown := Lib.hid hown); refine mixQ_mk (by first | exact ex_refl _ | exact ⟨_, rfl⟩ | exact ex_app _ _ _ | (simp only [wx_wx, wx_drew]; first | exact ex_refl _ | exact ex_app _ _ _ | exact ⟨_, rfl⟩) | (repeat (first | exact ex_refl _ | refine ex_drew ?_ | refine ex_alloc ?_ _ | refine ex_wx ?_ _))) ?_))
          refine wpMix_nil (fun X2 => ?_)
          intro q hq
          have KB : Ex w8 (wx (wx w8 (X1.app XA)) X2) := (by (try show Ex _ _); with_reducible repeat (first | exact ex_refl _ | assumption | refine ex_drewL ?_ | refine ex_appR ?_ _ | refine ex_wx ?_ _ | refine ex_drew ?_ | refine ex_alloc ?_ _))
          obtain ⟨bs, hbs⟩ : ∃ bs, w8.heap.size + q = bs := ⟨_, rfl⟩
          have hbs2 : w8.heap.size ≤ bs := by omega
          rw [hbs] at hq ⊢
          clear hbs hown
          generalize wx (wx w8 (X1.app XA)) X2 = wB at hq KB ⊢
          obtain ⟨d1, d2, d3⟩ := block_cells (n := 4) hq rfl
          have hlt4 : w.heap.size + 1 + 1 < w8.heap.size := (Array.getElem?_eq_some_iff.1 hb4).1
          have d4 : ∀ vs, (wB.setCells bs 0 vs).cell? ⟨w.heap.size, 0, none⟩ = some _ := fun vs => ex_cell (ex_setCells KB hbs2 0 vs) c2 (by show w.heap.size < _; omega)
          have hbB : ∀ vs, (wB.setCells bs 0 vs).heap[w.heap.size + 1 + 1]? = some (.cells #[I 0, I 0, .slice none 0 0, .slice none 0 0] 27 (0, 0)) := fun vs => ex_block (ex_setCells KB hbs2 0 vs) hb4
          have d5 := fun vs => (block_cells (n := 4) (hbB vs) rfl).1
          have d6 := fun vs => (block_cells (n := 4) (hbB vs) rfl).2.1
          have d7 : cellsN (wB.setCells bs 0 [I 0, I 0, .slice pa 0 pc, .slice none 0 0]) bs 0 4 = some #[I 0, I 0, .slice pa 0 pc, .slice none 0 0] := (block_cells (n := 4) (setCells_block bs _ (0, 0) [I 0, I 0, .slice pa 0 pc, .slice none 0 0] 0 _ _ hq) rfl).1
          have HD8 : Hid (∀ vs vs2 : List Value, vs2.length = 4 → Ex w ((wB.setCells bs 0 vs).setCells (w.heap.size + 1 + 1) 0 vs2) ∧ cellsN ((wB.setCells bs 0 vs).setCells (w.heap.size + 1 + 1) 0 vs2) (w.heap.size + 1 + 1) 0 4 = some vs2.toArray) := Lib.hid fun vs vs2 hv => by
            refine ⟨ex_setCells (ex_trans k8 (ex_setCells KB hbs2 0 vs)) (by omega) _ _, ?_⟩
            have := setCells_block (w.heap.size + 1 + 1) _ (0, 0) vs2 0 _ _ (hbB vs)
            rw [spliceA_all _ _ (by rw [hv]; rfl)] at this
            exact (block_cells this (by simpa using hv)).1
          have HQ := Lib.hid hq
          have HB4 := Lib.hid hb4
          clear hq hb4 hbB
          unfold ptr
          go_wp2
          obtain ⟨x1, x2⟩ := HD8.out [I 0, I 0, .slice pa 0 pc, .slice none 0 0] [I 0, I 0, .slice pa 0 pc, .slice none 0 0] rfl
          rw [HPL.out, HQL.out, HF1.out]
          exact ret_rowV (cs := #[I 0, I 0, .slice pa 0 pc, .slice none 0 0]) (v := I 0) Tryd.results21 Tryd.underlying27 rfl info_span rfl x2 rfl rfl ⟨pa, pc, none, 0, rfl, ⟨by simp, u2, u3, SlP.nil _ _⟩, ⟨by simp, by decide, fun _ => rfl, SlD.nil _ _⟩, x1⟩
    · obtain ⟨g, off, rfl, hg, _⟩ := hs.pos hpos
      have hps : SlP w (some ⟨g, off + firstP l ⟨lo, hi, false⟩ * 2, none⟩) (pairsP l ⟨lo, hi, false⟩) := (hs.drop _).take _
      have HClb := prove_climb GW.out l (some ⟨g, off, none⟩) c (firstP l ⟨lo, hi, false⟩) (endP l ⟨lo, hi, false⟩) w (by omega) hc hcm hs hpos
      have hqs : (treeD (FP l (firstP l ⟨lo, hi, false⟩) (endP l ⟨lo, hi, false⟩)) 0 l.length []).2 = pathS l ⟨lo, hi, false⟩ := by unfold pathS; rw [if_neg (by omega)]
      rw [hqs] at HClb
      replace HClb := Lib.hid HClb
      have HT := HFE.out
      have hqs0 : Hid (∃ qs, pathS l ⟨lo, hi, false⟩ = qs) := Lib.hid ⟨_, rfl⟩
      have hps0 : Hid (∃ ps, pairsP l ⟨lo, hi, false⟩ = ps) := Lib.hid ⟨_, rfl⟩
      obtain ⟨qs, hq0⟩ := hqs0.out
      obtain ⟨ps, hp0⟩ := hps0.out
      rw [hq0] at HClb
      rw [hp0] at hps HP1
      have HQL := Lib.hid hq0
      have HPL := Lib.hid hp0
      clear hqs0 hps0
      generalize firstP l ⟨lo, hi, false⟩ = F at *
      generalize endP l ⟨lo, hi, false⟩ = E at *
      obtain ⟨t1, t2, t3⟩ := HT
      have t4 := t3 hpos
      have HCl : Hid (∀ w', Ex w w' → Calls Tryd.prog 68 #[.slice (some ⟨g, off + F * 2, none⟩) (E - F) (c - F)] w' (PostOP w' ps)) := Lib.hid fun w' k => by
        have := cloneP_any ps (some ⟨g, off + F * 2, none⟩) (c - F) w' (by omega) (by omega) (by omega) (fun h => by cases h) (hps.ex k)
        rwa [HP1] at this
      have HP := Lib.hid HP1
      generalize l.length = n at *
      have v1 : (F : Int) ≤ E := by omega
      have v2 : (E : Int) ≤ c := by omega
      have v3 : ¬ c = F := by omega
      have v4 : ((n : Int) == 0) = false := beq_eq_false_iff_ne.2 (by omega)
      clear hqs hps HP1 hq0 hp0 fe1 fe2 fe3 HFE hs hr t3 E2 ha
      refine wp_region_late [(0, true), (1, true), (2, true), (3, true), (4, true), (5, true), (6, true), (7, false), (8, true)] 10 [(9, some 8, (.cells #[I 0, I 0, .slice none 0 0, .slice none 0 0] 27))] (by kernel_rfl) (by kernel_rfl) rfl (by intro x hx ρ W; simp only [List.mem_cons, List.not_mem_nil, or_false] at hx; repeat (first | subst hx | (rcases hx with rfl | hx)); all_goals (first | (simp [nth, go_sem, ptr]; done) | (simp [nth, go_sem, ptr]; rfl))) (fun _ _ d _ _ h => by cases d <;> exact h) (fun _ _ d _ _ h => by cases d <;> exact h) ?_
      simp only [List.map_cons, List.map_nil, nth, List.drop_succ_cons, List.drop_zero, lateR]
      repeat (first | (refine wpMix_look ?_; go_big_quiet_step (fail); refine wpQuiet_nil ?_) | (refine wpMix_eff rfl (fun X1 => ?_); go_wp2_with (go_at_call 68; (with_reducible refine (HCl.out _ (by (try show Ex _ _); with_reducible repeat (first | exact ex_refl _ | assumption | refine ex_drewL ?_ | refine ex_appR ?_ _ | refine ex_wx ?_ _ | refine ex_drew ?_ | refine ex_alloc ?_ _))).mono ?_); rintro e wA ⟨pv, rfl, hown, XA, rfl⟩; obtain ⟨pa, pc, rfl, u1, u2, u3, _⟩ := hown.slg; replace hown := Lib.hid hown); refine mixQ_mk (by first | exact ex_refl _ | exact ⟨_, rfl⟩ | exact ex_app _ _ _ | (simp only [wx_wx, wx_drew]; first | exact ex_refl _ | exact ex_app _ _ _ | exact ⟨_, rfl⟩) | (repeat (first | exact ex_refl _ | refine ex_drew ?_ | refine ex_alloc ?_ _ | refine ex_wx ?_ _))) ?_))
      refine wpMix_nil (fun X2 => ?_)
      intro q hq
      have KB : Ex w8 (wx (wx w8 (X1.app XA)) X2) := (by (try show Ex _ _); with_reducible repeat (first | exact ex_refl _ | assumption | refine ex_drewL ?_ | refine ex_appR ?_ _ | refine ex_wx ?_ _ | refine ex_drew ?_ | refine ex_alloc ?_ _))
      have hz : w8.heap.size ≤ (wx w8 X1).heap.size := by simp [go_sem]
      have hownB : OwnP (wx (wx w8 (X1.app XA)) X2) (wx w8 X1).heap.size (.slice pa ps.length pc) ps := hown.out.ex (by simp only [wx_wx]; exact ex_app _ _ _)
      obtain ⟨bs, hbs⟩ : ∃ bs, w8.heap.size + q = bs := ⟨_, rfl⟩
      have hbs2 : w8.heap.size ≤ bs := by omega
      rw [hbs] at hq ⊢
      clear hbs hown
      generalize (wx w8 X1).heap.size = Z at hz hownB
      generalize wx (wx w8 (X1.app XA)) X2 = wB at hq KB hownB ⊢
      have hIs := invP_start KB hbs2 hq hownB hz (I n) (I F)
      have hpb : ∀ b, (Value.slice pa ps.length pc).ownBlock = some b → (Value.slice pa ps.length pc).ownBlock = some b ∧ b ≠ bs := fun b hb => ⟨hb, fun e => by subst e; exact own_type hownB hq (by decide) hb⟩
      obtain ⟨d1, d2, d3⟩ := block_cells (n := 4) hq rfl
      have d4 : ∀ vs, (wB.setCells bs 0 vs).cell? ⟨w.heap.size, 0, none⟩ = some (.slice (some ⟨g, off, none⟩) n c) := fun vs => ex_cell (ex_setCells KB hbs2 0 vs) c2 (by show w.heap.size < _; omega)
      have HIs := Lib.hid hIs
      have HPB := Lib.hid hpb
      have HOB := Lib.hid hownB
      have HB4 := Lib.hid hb4
      have HQ := Lib.hid hq
      clear hIs hpb hownB hb4 hq
      unfold ptr
      go_wp2_with (go_at_call 64; refine (HClb.out w8 b6 (b6 + 1) w.heap.size bs (I n) (I F) (.slice pa ps.length pc) _ k8 c6 c7 c2 (by omega) (by omega) (by omega) _ HIs.out).mono ?_; rintro e w9 ⟨rfl, hH9, hI9⟩; obtain ⟨qa, qc, y1, y2, y3, y4, y5, y6, y7⟩ := prove_end k8 (by omega) HB4.out rfl HOB.out hz hbs2 HPB.out hH9 hI9; clear hH9 hI9; replace y7 := Lib.hid y7)
      obtain ⟨x1, x2, x3, x4⟩ := y7.out [I n, I F, .slice pa ps.length pc, .slice qa qs.length qc] rfl
      obtain ⟨pa2, pc2, he, _, _, _, x5⟩ := OwnP.slg x3
      cases he
      rw [HPL.out, HQL.out]
      exact ret_rowV (cs := #[I n, I F, .slice pa ps.length pc, .slice qa qs.length qc]) (v := I 0) Tryd.results21 Tryd.underlying27 rfl info_span rfl x2 rfl rfl ⟨pa, pc, qa, qc, rfl, ⟨u1, u2, u3, x5⟩, ⟨y4, y5, y6, x4⟩, x1⟩
  · simp only [if_true] at HE
    unfold RC
    simp only
    generalize belowN l lo = f0 at *
    generalize belowN l hi = h0 at *
    have HFE := Lib.hid (And.intro fe1 (And.intro fe2 fe3))
    go_enter Tryd.func21, Tryd.ntmps21
    have hmf : ∀ (fn : Fn) (first cap : Array Value) (w : World), (Instr.makeFunc fn first cap).run Tryd.prog w = .ok (.func fn first cap) w := fun _ _ _ _ => rfl
    go_wp2_with (first | (go_at_call 62; (with_reducible refine (HC.out _ (by (try show Ex _ _); with_reducible repeat (first | exact ex_refl _ | assumption | refine ex_drewL ?_ | refine ex_appR ?_ _ | refine ex_wx ?_ _ | refine ex_drew ?_ | refine ex_alloc ?_ _))).mono ?_); rintro e w2 ⟨rfl, X1, rfl⟩) | (go_at_call 67; (with_reducible refine (HB0.out _ (by (try show Ex _ _); with_reducible repeat (first | exact ex_refl _ | assumption | refine ex_drewL ?_ | refine ex_appR ?_ _ | refine ex_wx ?_ _ | refine ex_drew ?_ | refine ex_alloc ?_ _))).mono ?_); rintro e w2 ⟨rfl, X2, rfl⟩))
    have mixed : Tryd.prog.follows .mixedOrders = true := by kernel_rfl
    go_big_region_o
    all_goals go_wp2
    clear mixed HB0 HB1 HC HF HE
    refine wp_world fun w8 hw8 => ?_
    have k8 : Ex w w8 := by rw [← hw8]; exact (by (try show Ex _ _); with_reducible repeat (first | exact ex_refl _ | assumption | refine ex_drewL ?_ | refine ex_appR ?_ _ | refine ex_wx ?_ _ | refine ex_drew ?_ | refine ex_alloc ?_ _))
    obtain ⟨b6, hb6⟩ : ∃ b6, w.heap.size + 1 + 1 + 1 + (X1.blocks.length + X2.blocks.length) = b6 := ⟨_, rfl⟩
    have c2 : w8.cell? ⟨w.heap.size, 0, none⟩ = some (.slice a l.length c) := by rw [← hw8]; simp [go_sem] <;> first | (intros; exfalso; omega) | (repeat (first | rw [if_pos (by omega)] | rw [if_neg (by omega)]))
    have hb4 : w8.heap[w.heap.size + 1 + 1]? = some (.cells #[I 0, I 0, .slice none 0 0, .slice none 0 0] 27 (0, 0)) := by
      have h0 := heap_alloc_new ((w.alloc (.cells #[.slice a l.length c] 22)).alloc (.cells #[.string lo, .string hi, .bool true] 24)) (.cells #[I 0, I 0, .slice none 0 0, .slice none 0 0] 27)
      have h1 : ((w.alloc (.cells #[.slice a l.length c] 22)).alloc (.cells #[.string lo, .string hi, .bool true] 24)).heap.size = w.heap.size + 1 + 1 := by simp [go_sem]
      rw [← h1]
      exact ex_block (by rw [← hw8]; exact (by (try show Ex _ _); with_reducible repeat (first | exact ex_refl _ | assumption | refine ex_drewL ?_ | refine ex_appR ?_ _ | refine ex_wx ?_ _ | refine ex_drew ?_ | refine ex_alloc ?_ _))) h0
    obtain ⟨c4, c5, _⟩ := block_cells (n := 4) hb4 rfl
    have c6 : w8.cell? ⟨b6, 0, none⟩ = some (I (firstP l ⟨lo, hi, true⟩)) := by rw [← hw8, ← hb6]; simp [go_sem] <;> first | omega | (repeat (first | rw [if_pos (by omega)] | rw [if_neg (by omega)]))
    have c7 : w8.cell? ⟨b6 + 1, 0, none⟩ = some (I (endP l ⟨lo, hi, true⟩)) := by rw [← hw8, ← hb6]; simp [go_sem] <;> first | omega | (repeat (first | rw [if_pos (by omega)] | rw [if_neg (by omega)]))
    have c8 : b6 + 1 < w8.heap.size := by rw [← hw8, ← hb6]; simp [go_sem] <;> first | omega | (repeat (first | rw [if_pos (by omega)] | rw [if_neg (by omega)]))
    have c9 : w.heap.size + 1 + 1 < b6 := by rw [← hb6]; omega
    rw [hb6]
    clear hw8 hb6 X1 X2
    have E2 : ∀ b, b6 + 1 < b → b6 < b := fun b h => by omega
    rcases Nat.eq_zero_or_pos l.length with h0 | hpos
    · obtain rfl : l = [] := List.eq_nil_of_length_eq_zero h0
      have HF0 : firstP [] ⟨lo, hi, true⟩ = 0 := by have := first_end [] ⟨lo, hi, true⟩; simp at this; omega
      have HE0 : endP [] ⟨lo, hi, true⟩ = 0 := by have := first_end [] ⟨lo, hi, true⟩; simp at this; omega
      have HPL : Hid (pairsP [] ⟨lo, hi, true⟩ = []) := Lib.hid (by unfold pairsP; simp)
      have HQL : Hid (pathS [] ⟨lo, hi, true⟩ = []) := Lib.hid rfl
      have HF1 := Lib.hid HF0
      rw [HF0] at c6
      rw [HE0] at c7
      have HCl : Hid (∀ a c w', c ≤ maxLen → (a = none → c = 0) → Calls Tryd.prog 68 #[.slice a 0 c] w' (PostOP w' [])) := Lib.hid fun a c w' h1 h2 => cloneP_any [] a c w' (by simp) (by simp) h1 h2 (SlP.nil _ _)
      rw [List.length_nil] at c2 ⊢
      have HMX := Lib.hid hcm
      clear hs hr fe1 fe2 fe3 HFE HF0 HE0 HP1 E2
      cases a with
      | none =>
        obtain rfl := ha rfl
        clear ha
        refine wp_region_late [(0, true), (1, true), (2, true), (3, true), (4, true), (5, true), (6, true), (7, false), (8, true)] 10 [(9, some 8, (.cells #[I 0, I 0, .slice none 0 0, .slice none 0 0] 27))] (by kernel_rfl) (by kernel_rfl) rfl (by intro x hx ρ W; simp only [List.mem_cons, List.not_mem_nil, or_false] at hx; repeat (first | subst hx | (rcases hx with rfl | hx)); all_goals (first | (simp [nth, go_sem, ptr]; done) | (simp [nth, go_sem, ptr]; rfl))) (fun _ _ d _ _ h => by cases d <;> exact h) (fun _ _ d _ _ h => by cases d <;> exact h) ?_
        simp only [List.map_cons, List.map_nil, nth, List.drop_succ_cons, List.drop_zero, lateR]
        repeat (first | (refine wpMix_look ?_; go_big_quiet_step (fail); refine wpQuiet_nil ?_) | (refine wpMix_eff rfl (fun X1 => ?_); go_wp2_with (go_at_call 68; (refine (HCl.out _ _ _ (by first | exact HMX.out | decide) (fun h => by first | rfl | cases h)).mono ?_); rintro e wA ⟨pv, rfl, hown, XA, rfl⟩; obtain ⟨pa, pc, rfl, u1, u2, u3, _⟩ := hown.slg; replace hown := Lib.hid hown); refine mixQ_mk (by first | exact ex_refl _ | exact ⟨_, rfl⟩ | exact ex_app _ _ _ | (simp only [wx_wx, wx_drew]; first | exact ex_refl _ | exact ex_app _ _ _ | exact ⟨_, rfl⟩) | (repeat (first | exact ex_refl _ | refine ex_drew ?_ | refine ex_alloc ?_ _ | refine ex_wx ?_ _))) ?_))
        refine wpMix_nil (fun X2 => ?_)
        intro q hq
        have KB : Ex w8 (wx (wx w8 (X1.app XA)) X2) := (by (try show Ex _ _); with_reducible repeat (first | exact ex_refl _ | assumption | refine ex_drewL ?_ | refine ex_appR ?_ _ | refine ex_wx ?_ _ | refine ex_drew ?_ | refine ex_alloc ?_ _))
        obtain ⟨bs, hbs⟩ : ∃ bs, w8.heap.size + q = bs := ⟨_, rfl⟩
        have hbs2 : w8.heap.size ≤ bs := by omega
        rw [hbs] at hq ⊢
        clear hbs hown
        generalize wx (wx w8 (X1.app XA)) X2 = wB at hq KB ⊢
        obtain ⟨d1, d2, d3⟩ := block_cells (n := 4) hq rfl
        have hlt4 : w.heap.size + 1 + 1 < w8.heap.size := (Array.getElem?_eq_some_iff.1 hb4).1
        have d4 : ∀ vs, (wB.setCells bs 0 vs).cell? ⟨w.heap.size, 0, none⟩ = some _ := fun vs => ex_cell (ex_setCells KB hbs2 0 vs) c2 (by show w.heap.size < _; omega)
        have hbB : ∀ vs, (wB.setCells bs 0 vs).heap[w.heap.size + 1 + 1]? = some (.cells #[I 0, I 0, .slice none 0 0, .slice none 0 0] 27 (0, 0)) := fun vs => ex_block (ex_setCells KB hbs2 0 vs) hb4
        have d5 := fun vs => (block_cells (n := 4) (hbB vs) rfl).1
        have d6 := fun vs => (block_cells (n := 4) (hbB vs) rfl).2.1
        have d7 : cellsN (wB.setCells bs 0 [I 0, I 0, .slice pa 0 pc, .slice none 0 0]) bs 0 4 = some #[I 0, I 0, .slice pa 0 pc, .slice none 0 0] := (block_cells (n := 4) (setCells_block bs _ (0, 0) [I 0, I 0, .slice pa 0 pc, .slice none 0 0] 0 _ _ hq) rfl).1
        have HD8 : Hid (∀ vs vs2 : List Value, vs2.length = 4 → Ex w ((wB.setCells bs 0 vs).setCells (w.heap.size + 1 + 1) 0 vs2) ∧ cellsN ((wB.setCells bs 0 vs).setCells (w.heap.size + 1 + 1) 0 vs2) (w.heap.size + 1 + 1) 0 4 = some vs2.toArray) := Lib.hid fun vs vs2 hv => by
          refine ⟨ex_setCells (ex_trans k8 (ex_setCells KB hbs2 0 vs)) (by omega) _ _, ?_⟩
          have := setCells_block (w.heap.size + 1 + 1) _ (0, 0) vs2 0 _ _ (hbB vs)
          rw [spliceA_all _ _ (by rw [hv]; rfl)] at this
          exact (block_cells this (by simpa using hv)).1
        have HQ := Lib.hid hq
        have HB4 := Lib.hid hb4
        clear hq hb4 hbB
        unfold ptr
        go_wp2
        obtain ⟨x1, x2⟩ := HD8.out [I 0, I 0, .slice pa 0 pc, .slice none 0 0] [I 0, I 0, .slice pa 0 pc, .slice none 0 0] rfl
        rw [HPL.out, HQL.out, HF1.out]
        exact ret_rowV (cs := #[I 0, I 0, .slice pa 0 pc, .slice none 0 0]) (v := I 0) Tryd.results21 Tryd.underlying27 rfl info_span rfl x2 rfl rfl ⟨pa, pc, none, 0, rfl, ⟨by simp, u2, u3, SlP.nil _ _⟩, ⟨by simp, by decide, fun _ => rfl, SlD.nil _ _⟩, x1⟩
      | some ad =>
        clear ha
        by_cases hc0 : c = 0
        · subst hc0
          refine wp_region_late [(0, true), (1, true), (2, true), (3, true), (4, true), (5, true), (6, true), (7, false), (8, true)] 10 [(9, some 8, (.cells #[I 0, I 0, .slice none 0 0, .slice none 0 0] 27))] (by kernel_rfl) (by kernel_rfl) rfl (by intro x hx ρ W; simp only [List.mem_cons, List.not_mem_nil, or_false] at hx; repeat (first | subst hx | (rcases hx with rfl | hx)); all_goals (first | (simp [nth, go_sem, ptr]; done) | (simp [nth, go_sem, ptr]; rfl))) (fun _ _ d _ _ h => by cases d <;> exact h) (fun _ _ d _ _ h => by cases d <;> exact h) ?_
          simp only [List.map_cons, List.map_nil, nth, List.drop_succ_cons, List.drop_zero, lateR]
          repeat (first | (refine wpMix_look ?_; go_big_quiet_step (fail); refine wpQuiet_nil ?_) | (refine wpMix_eff rfl (fun X1 => ?_); go_wp2_with (go_at_call 68; (refine (HCl.out _ _ _ (by first | exact HMX.out | decide) (fun h => by first | rfl | cases h)).mono ?_); rintro e wA ⟨pv, rfl, hown, XA, rfl⟩; obtain ⟨pa, pc, rfl, u1, u2, u3, _⟩ := hown.slg; replace hown := Lib.hid hown); refine mixQ_mk (by first | exact ex_refl _ | exact ⟨_, rfl⟩ | exact ex_app _ _ _ | (simp only [wx_wx, wx_drew]; first | exact ex_refl _ | exact ex_app _ _ _ | exact ⟨_, rfl⟩) | (repeat (first | exact ex_refl _ | refine ex_drew ?_ | refine ex_alloc ?_ _ | refine ex_wx ?_ _))) ?_))
          refine wpMix_nil (fun X2 => ?_)
          intro q hq
          have KB : Ex w8 (wx (wx w8 (X1.app XA)) X2) := (by (try show Ex _ _); with_reducible repeat (first | exact ex_refl _ | assumption | refine ex_drewL ?_ | refine ex_appR ?_ _ | refine ex_wx ?_ _ | refine ex_drew ?_ | refine ex_alloc ?_ _))
          obtain ⟨bs, hbs⟩ : ∃ bs, w8.heap.size + q = bs := ⟨_, rfl⟩
          have hbs2 : w8.heap.size ≤ bs := by omega
          rw [hbs] at hq ⊢
          clear hbs hown
          generalize wx (wx w8 (X1.app XA)) X2 = wB at hq KB ⊢
          obtain ⟨d1, d2, d3⟩ := block_cells (n := 4) hq rfl
          have hlt4 : w.heap.size + 1 + 1 < w8.heap.size := (Array.getElem?_eq_some_iff.1 hb4).1
          have d4 : ∀ vs, (wB.setCells bs 0 vs).cell? ⟨w.heap.size, 0, none⟩ = some _ := fun vs => ex_cell (ex_setCells KB hbs2 0 vs) c2 (by show w.heap.size < _; omega)
          have hbB : ∀ vs, (wB.setCells bs 0 vs).heap[w.heap.size + 1 + 1]? = some (.cells #[I 0, I 0, .slice none 0 0, .slice none 0 0] 27 (0, 0)) := fun vs => ex_block (ex_setCells KB hbs2 0 vs) hb4
          have d5 := fun vs => (block_cells (n := 4) (hbB vs) rfl).1
          have d6 := fun vs => (block_cells (n := 4) (hbB vs) rfl).2.1
          have d7 : cellsN (wB.setCells bs 0 [I 0, I 0, .slice pa 0 pc, .slice none 0 0]) bs 0 4 = some #[I 0, I 0, .slice pa 0 pc, .slice none 0 0] := (block_cells (n := 4) (setCells_block bs _ (0, 0) [I 0, I 0, .slice pa 0 pc, .slice none 0 0] 0 _ _ hq) rfl).1
          have HD8 : Hid (∀ vs vs2 : List Value, vs2.length = 4 → Ex w ((wB.setCells bs 0 vs).setCells (w.heap.size + 1 + 1) 0 vs2) ∧ cellsN ((wB.setCells bs 0 vs).setCells (w.heap.size + 1 + 1) 0 vs2) (w.heap.size + 1 + 1) 0 4 = some vs2.toArray) := Lib.hid fun vs vs2 hv => by
            refine ⟨ex_setCells (ex_trans k8 (ex_setCells KB hbs2 0 vs)) (by omega) _ _, ?_⟩
            have := setCells_block (w.heap.size + 1 + 1) _ (0, 0) vs2 0 _ _ (hbB vs)
            rw [spliceA_all _ _ (by rw [hv]; rfl)] at this
            exact (block_cells this (by simpa using hv)).1
          have HQ := Lib.hid hq
          have HB4 := Lib.hid hb4
          clear hq hb4 hbB
          unfold ptr
          go_wp2
          obtain ⟨x1, x2⟩ := HD8.out [I 0, I 0, .slice pa 0 pc, .slice none 0 0] [I 0, I 0, .slice pa 0 pc, .slice none 0 0] rfl
          rw [HPL.out, HQL.out, HF1.out]
          exact ret_rowV (cs := #[I 0, I 0, .slice pa 0 pc, .slice none 0 0]) (v := I 0) Tryd.results21 Tryd.underlying27 rfl info_span rfl x2 rfl rfl ⟨pa, pc, none, 0, rfl, ⟨by simp, u2, u3, SlP.nil _ _⟩, ⟨by simp, by decide, fun _ => rfl, SlD.nil _ _⟩, x1⟩
        · have hc1 : ¬ (c : Int) = 0 := by omega
          refine wp_region_late [(0, true), (1, true), (2, true), (3, true), (4, true), (5, true), (6, true), (7, false), (8, true)] 10 [(9, some 8, (.cells #[I 0, I 0, .slice none 0 0, .slice none 0 0] 27))] (by kernel_rfl) (by kernel_rfl) rfl (by intro x hx ρ W; simp only [List.mem_cons, List.not_mem_nil, or_false] at hx; repeat (first | subst hx | (rcases hx with rfl | hx)); all_goals (first | (simp [nth, go_sem, ptr]; done) | (simp [nth, go_sem, ptr]; rfl))) (fun _ _ d _ _ h => by cases d <;> exact h) (fun _ _ d _ _ h => by cases d <;> exact h) ?_
          simp only [List.map_cons, List.map_nil, nth, List.drop_succ_cons, List.drop_zero, lateR]
          repeat (first | (refine wpMix_look ?_; go_big_quiet_step (fail); refine wpQuiet_nil ?_) | (refine wpMix_eff rfl (fun X1 => ?_); go_wp2_with (go_at_call 68; (refine (HCl.out _ _ _ (by first | exact HMX.out | decide) (fun h => by first | rfl | cases h)).mono ?_); rintro e wA ⟨pv, rfl, hown, XA, rfl⟩; obtain ⟨pa, pc, rfl, u1, u2, u3, _⟩ := hown.slg; replace hown := Lib.hid hown); refine mixQ_mk (by first | exact ex_refl _ | exact ⟨_, rfl⟩ | exact ex_app _ _ _ | (simp only [wx_wx, wx_drew]; first | exact ex_refl _ | exact ex_app _ _ _ | exact ⟨_, rfl⟩) | (repeat (first | exact ex_refl _ | refine ex_drew ?_ | refine ex_alloc ?_ _ | refine ex_wx ?_ _))) ?_))
          refine wpMix_nil (fun X2 => ?_)
          intro q hq
          have KB : Ex w8 (wx (wx w8 (X1.app XA)) X2) := (by (try show Ex _ _); with_reducible repeat (first | exact ex_refl _ | assumption | refine ex_drewL ?_ | refine ex_appR ?_ _ | refine ex_wx ?_ _ | refine ex_drew ?_ | refine ex_alloc ?_ _))
          obtain ⟨bs, hbs⟩ : ∃ bs, w8.heap.size + q = bs := ⟨_, rfl⟩
          have hbs2 : w8.heap.size ≤ bs := by omega
          rw [hbs] at hq ⊢
          clear hbs hown
          generalize wx (wx w8 (X1.app XA)) X2 = wB at hq KB ⊢
          obtain ⟨d1, d2, d3⟩ := block_cells (n := 4) hq rfl
          have hlt4 : w.heap.size + 1 + 1 < w8.heap.size := (Array.getElem?_eq_some_iff.1 hb4).1
          have d4 : ∀ vs, (wB.setCells bs 0 vs).cell? ⟨w.heap.size, 0, none⟩ = some _ := fun vs => ex_cell (ex_setCells KB hbs2 0 vs) c2 (by show w.heap.size < _; omega)
          have hbB : ∀ vs, (wB.setCells bs 0 vs).heap[w.heap.size + 1 + 1]? = some (.cells #[I 0, I 0, .slice none 0 0, .slice none 0 0] 27 (0, 0)) := fun vs => ex_block (ex_setCells KB hbs2 0 vs) hb4
          have d5 := fun vs => (block_cells (n := 4) (hbB vs) rfl).1
          have d6 := fun vs => (block_cells (n := 4) (hbB vs) rfl).2.1
          have d7 : cellsN (wB.setCells bs 0 [I 0, I 0, .slice pa 0 pc, .slice none 0 0]) bs 0 4 = some #[I 0, I 0, .slice pa 0 pc, .slice none 0 0] := (block_cells (n := 4) (setCells_block bs _ (0, 0) [I 0, I 0, .slice pa 0 pc, .slice none 0 0] 0 _ _ hq) rfl).1
          have HD8 : Hid (∀ vs vs2 : List Value, vs2.length = 4 → Ex w ((wB.setCells bs 0 vs).setCells (w.heap.size + 1 + 1) 0 vs2) ∧ cellsN ((wB.setCells bs 0 vs).setCells (w.heap.size + 1 + 1) 0 vs2) (w.heap.size + 1 + 1) 0 4 = some vs2.toArray) := Lib.hid fun vs vs2 hv => by
            refine ⟨ex_setCells (ex_trans k8 (ex_setCells KB hbs2 0 vs)) (by omega) _ _, ?_⟩
            have := setCells_block (w.heap.size + 1 + 1) _ (0, 0) vs2 0 _ _ (hbB vs)
            rw [spliceA_all _ _ (by rw [hv]; rfl)] at this
            exact (block_cells this (by simpa using hv)).1
          have HQ := Lib.hid hq
          have HB4 := Lib.hid hb4
          clear hq hb4 hbB
          unfold ptr
          go_wp2
          obtain ⟨x1, x2⟩ := HD8.out [I 0, I 0, .slice pa 0 pc, .slice none 0 0] [I 0, I 0, .slice pa 0 pc, .slice none 0 0] rfl
          rw [HPL.out, HQL.out, HF1.out]
          exact ret_rowV (cs := #[I 0, I 0, .slice pa 0 pc, .slice none 0 0]) (v := I 0) Tryd.results21 Tryd.underlying27 rfl info_span rfl x2 rfl rfl ⟨pa, pc, none, 0, rfl, ⟨by simp, u2, u3, SlP.nil _ _⟩, ⟨by simp, by decide, fun _ => rfl, SlD.nil _ _⟩, x1⟩
    · obtain ⟨g, off, rfl, hg, _⟩ := hs.pos hpos
      have hps : SlP w (some ⟨g, off + firstP l ⟨lo, hi, true⟩ * 2, none⟩) (pairsP l ⟨lo, hi, true⟩) := (hs.drop _).take _
      have HClb := prove_climb GW.out l (some ⟨g, off, none⟩) c (firstP l ⟨lo, hi, true⟩) (endP l ⟨lo, hi, true⟩) w (by omega) hc hcm hs hpos
      have hqs : (treeD (FP l (firstP l ⟨lo, hi, true⟩) (endP l ⟨lo, hi, true⟩)) 0 l.length []).2 = pathS l ⟨lo, hi, true⟩ := by unfold pathS; rw [if_neg (by omega)]
      rw [hqs] at HClb
      replace HClb := Lib.hid HClb
      have HT := HFE.out
      have hqs0 : Hid (∃ qs, pathS l ⟨lo, hi, true⟩ = qs) := Lib.hid ⟨_, rfl⟩
      have hps0 : Hid (∃ ps, pairsP l ⟨lo, hi, true⟩ = ps) := Lib.hid ⟨_, rfl⟩
      obtain ⟨qs, hq0⟩ := hqs0.out
      obtain ⟨ps, hp0⟩ := hps0.out
      rw [hq0] at HClb
      rw [hp0] at hps HP1
      have HQL := Lib.hid hq0
      have HPL := Lib.hid hp0
      clear hqs0 hps0
      generalize firstP l ⟨lo, hi, true⟩ = F at *
      generalize endP l ⟨lo, hi, true⟩ = E at *
      obtain ⟨t1, t2, t3⟩ := HT
      have t4 := t3 hpos
      have HCl : Hid (∀ w', Ex w w' → Calls Tryd.prog 68 #[.slice (some ⟨g, off + F * 2, none⟩) (E - F) (c - F)] w' (PostOP w' ps)) := Lib.hid fun w' k => by
        have := cloneP_any ps (some ⟨g, off + F * 2, none⟩) (c - F) w' (by omega) (by omega) (by omega) (fun h => by cases h) (hps.ex k)
        rwa [HP1] at this
      have HP := Lib.hid HP1
      generalize l.length = n at *
      have v1 : (F : Int) ≤ E := by omega
      have v2 : (E : Int) ≤ c := by omega
      have v3 : ¬ c = F := by omega
      have v4 : ((n : Int) == 0) = false := beq_eq_false_iff_ne.2 (by omega)
      clear hqs hps HP1 hq0 hp0 fe1 fe2 fe3 HFE hs hr t3 E2 ha
      refine wp_region_late [(0, true), (1, true), (2, true), (3, true), (4, true), (5, true), (6, true), (7, false), (8, true)] 10 [(9, some 8, (.cells #[I 0, I 0, .slice none 0 0, .slice none 0 0] 27))] (by kernel_rfl) (by kernel_rfl) rfl (by intro x hx ρ W; simp only [List.mem_cons, List.not_mem_nil, or_false] at hx; repeat (first | subst hx | (rcases hx with rfl | hx)); all_goals (first | (simp [nth, go_sem, ptr]; done) | (simp [nth, go_sem, ptr]; rfl))) (fun _ _ d _ _ h => by cases d <;> exact h) (fun _ _ d _ _ h => by cases d <;> exact h) ?_
      simp only [List.map_cons, List.map_nil, nth, List.drop_succ_cons, List.drop_zero, lateR]
      repeat (first | (refine wpMix_look ?_; go_big_quiet_step (fail); refine wpQuiet_nil ?_) | (refine wpMix_eff rfl (fun X1 => ?_); go_wp2_with (go_at_call 68; (with_reducible refine (HCl.out _ (by (try show Ex _ _); with_reducible repeat (first | exact ex_refl _ | assumption | refine ex_drewL ?_ | refine ex_appR ?_ _ | refine ex_wx ?_ _ | refine ex_drew ?_ | refine ex_alloc ?_ _))).mono ?_); rintro e wA ⟨pv, rfl, hown, XA, rfl⟩; obtain ⟨pa, pc, rfl, u1, u2, u3, _⟩ := hown.slg; replace hown := Lib.hid hown); refine mixQ_mk (by first | exact ex_refl _ | exact ⟨_, rfl⟩ | exact ex_app _ _ _ | (simp only [wx_wx, wx_drew]; first | exact ex_refl _ | exact ex_app _ _ _ | exact ⟨_, rfl⟩) | (repeat (first | exact ex_refl _ | refine ex_drew ?_ | refine ex_alloc ?_ _ | refine ex_wx ?_ _))) ?_))
      refine wpMix_nil (fun X2 => ?_)
      intro q hq
      have KB : Ex w8 (wx (wx w8 (X1.app XA)) X2) := (by (try show Ex _ _); with_reducible repeat (first | exact ex_refl _ | assumption | refine ex_drewL ?_ | refine ex_appR ?_ _ | refine ex_wx ?_ _ | refine ex_drew ?_ | refine ex_alloc ?_ _))
      have hz : w8.heap.size ≤ (wx w8 X1).heap.size := by simp [go_sem]
      have hownB : OwnP (wx (wx w8 (X1.app XA)) X2) (wx w8 X1).heap.size (.slice pa ps.length pc) ps := hown.out.ex (by simp only [wx_wx]; exact ex_app _ _ _)
      obtain ⟨bs, hbs⟩ : ∃ bs, w8.heap.size + q = bs := ⟨_, rfl⟩
      have hbs2 : w8.heap.size ≤ bs := by omega
      rw [hbs] at hq ⊢
      clear hbs hown
      generalize (wx w8 X1).heap.size = Z at hz hownB
      generalize wx (wx w8 (X1.app XA)) X2 = wB at hq KB hownB ⊢
      have hIs := invP_start KB hbs2 hq hownB hz (I n) (I F)
      have hpb : ∀ b, (Value.slice pa ps.length pc).ownBlock = some b → (Value.slice pa ps.length pc).ownBlock = some b ∧ b ≠ bs := fun b hb => ⟨hb, fun e => by subst e; exact own_type hownB hq (by decide) hb⟩
      obtain ⟨d1, d2, d3⟩ := block_cells (n := 4) hq rfl
      have d4 : ∀ vs, (wB.setCells bs 0 vs).cell? ⟨w.heap.size, 0, none⟩ = some (.slice (some ⟨g, off, none⟩) n c) := fun vs => ex_cell (ex_setCells KB hbs2 0 vs) c2 (by show w.heap.size < _; omega)
      have HIs := Lib.hid hIs
      have HPB := Lib.hid hpb
      have HOB := Lib.hid hownB
      have HB4 := Lib.hid hb4
      have HQ := Lib.hid hq
      clear hIs hpb hownB hb4 hq
      unfold ptr
      go_wp2_with (go_at_call 64; refine (HClb.out w8 b6 (b6 + 1) w.heap.size bs (I n) (I F) (.slice pa ps.length pc) _ k8 c6 c7 c2 (by omega) (by omega) (by omega) _ HIs.out).mono ?_; rintro e w9 ⟨rfl, hH9, hI9⟩; obtain ⟨qa, qc, y1, y2, y3, y4, y5, y6, y7⟩ := prove_end k8 (by omega) HB4.out rfl HOB.out hz hbs2 HPB.out hH9 hI9; clear hH9 hI9; replace y7 := Lib.hid y7)
      obtain ⟨x1, x2, x3, x4⟩ := y7.out [I n, I F, .slice pa ps.length pc, .slice qa qs.length qc] rfl
      obtain ⟨pa2, pc2, he, _, _, _, x5⟩ := OwnP.slg x3
      cases he
      rw [HPL.out, HQL.out]
      exact ret_rowV (cs := #[I n, I F, .slice pa ps.length pc, .slice qa qs.length qc]) (v := I 0) Tryd.results21 Tryd.underlying27 rfl info_span rfl x2 rfl rfl ⟨pa, pc, qa, qc, rfl, ⟨u1, u2, u3, x5⟩, ⟨y4, y5, y6, x4⟩, x1⟩
end Go.Proofs.YtcdocklbpfdmeaaDoor
