import Derived.Test.YtcdocklbpfdmeaaDoorMCoP

/- Collide: walks, with its deferred closure. -/
set_option linter.unusedSimpArgs false
set_option linter.unusedVariables false
set_option linter.unnecessarySimpa false
set_option maxRecDepth 20000
namespace Go.Proofs.YtcdocklbpfdmeaaDoor
open Go.RowKit
def offP (r : Bool) : PanicEntry := { v := .iface 177 (.agg #[]), recovered := r }
theorem catch_idle (b : Nat) (w : World) :
    CallsD Tryd.prog 131 #[.pointer (some ⟨b, 0, none⟩)] .returning w fun e u' w' => e = .returned (.tuple #[]) ∧ u' = .returning ∧ w' = w := by
  refine callsD_of_wpS Tryd.func131 rfl fun c₀ cs hu => ?_
  apply wpS_seq
  apply wpS_region
  simp [wpOpsS, go_sem, recoverD, hu, Tryd.ntmps131, Exit.thenS]
  refine wpS_of_wp ?_
  go_wp2
  cases c₀
  simp_all [bodyPostS, results, Tryd.results131]
theorem assert_off (w : World) : (Instr.typeAssert (.iface 177 (.agg #[])) 20 177 true).run Tryd.prog w = .ok (.tuple #[.agg #[], .bool true]) w := by
  kernel_rfl
set_option maxHeartbeats 2000000 in
theorem catch_off (b : Nat) (w : World) (old : Bool) (hb : w.cell? ⟨b, 0, none⟩ = some (.bool old)) (hz : w.frozen? ⟨b, 0, none⟩ = false) :
    CallsD Tryd.prog 131 #[.pointer (some ⟨b, 0, none⟩)] (.panicking [offP false]) w fun e u' w' => e = .returned (.tuple #[]) ∧ u' = .panicking [offP true] ∧ ∃ t, w' = (w.setCell ⟨b, 0, none⟩ (.bool false)).alloc (.cells #[] t) := by
  refine callsD_of_wpS Tryd.func131 rfl fun c₀ cs hu => ?_
  apply wpS_seq
  apply wpS_region
  simp [wpOpsS, go_sem, recoverD, hu, Tryd.ntmps131, Exit.thenS, offP]
  refine wpS_of_wp ?_
  have hta := assert_off
  have hlt : b < w.heap.size := cell_lt hb
  go_wp2
  exact ⟨rfl, _, rfl, _, by simp [results, Tryd.results131], rfl, rfl, _, rfl⟩
/-- What holds in the midst, nothing else happening ahead of it. -/
theorem wp_midC {P : Program} {c : Code} {K : Act → World → Prop} {Q : Exit → Act → World → Prop} {a : Act} {w : World} (R : Act → World → Prop)
    (h1 : c.wp P (Exit.then R fun _ _ _ => False) a w) (h2 : ∀ a' w', R a' w' → Exit.then K Q .normal a' w') : c.wp P (Exit.then K Q) a w := by
  refine Code.wp_mono (fun x a' w' h => ?_) h1
  cases x <;> first | exact h2 _ _ h | exact h.elim
theorem walks_off {f : Nat} {cap : Array Value} (hf : ∀ args w, (callFunc f args).run Tryd.prog w = .ok (.enter f args) w) (W : Nat) (hW : W ≤ 256) (w : World)
    (HC : ∀ w' p, Ex w w' → w.heap.size ≤ p → Wk w' p W none → Calls Tryd.prog f (#[.pointer (some ⟨p, 0, none⟩)] ++ cap) w' (PostKO p W w' none)) :
    Calls Tryd.prog 97 #[I W, .func (.func f) #[] cap] w (Post w (.tuple #[.bool false, .pointer none])) := by
  have hmf : ∀ (fn : Fn) (first cap : Array Value) (w : World), (Instr.makeFunc fn first cap).run Tryd.prog w = .ok (.func fn first cap) w := fun _ _ _ _ => rfl
  have HWd : Hid (∀ w', Calls Tryd.prog 60 #[I W] w' (Post w' (.bool true))) := Lib.hid fun w' => by
    have := wide_any W w'
    rwa [show wideB W = true from decide_eq_true (by omega)] at this
  have HC2 := Lib.hid HC
  clear HC
  go_enter_defers Tryd.func97, Tryd.ntmps97
  go_wp2_with (go_at_call 60; (with_reducible refine (HWd.out _).mono ?_); rintro e w2 ⟨rfl, X, rfl⟩)
  refine (HC2.out _ _ (by (try show Ex _ _); with_reducible repeat (first | exact ex_refl _ | assumption | refine ex_drewL ?_ | refine ex_appR ?_ _ | refine ex_wx ?_ _ | refine ex_drew ?_ | refine ex_alloc ?_ _)) (by omega) (Wk.new' W (by simp [go_sem]))).mono ?_
  rintro e w2 ⟨rfl, F2, c2, K2⟩
  dsimp only [offE]
  have hb0 : ((wx (w.alloc (.cells #[.bool false] 4)) X).alloc (.cells #[I W, .pointer none] 146)).heap[w.heap.size]? = some (.cells #[.bool false] 4 (0, 0)) := ex_block (w := w.alloc (.cells #[.bool false] 4)) (by (try show Ex _ _); with_reducible repeat (first | exact ex_refl _ | assumption | refine ex_drewL ?_ | refine ex_appR ?_ _ | refine ex_wx ?_ _ | refine ex_drew ?_ | refine ex_alloc ?_ _)) (heap_alloc_new w _)
  have hb2 := row_frm hb0 F2 (by omega)
  obtain ⟨c0, f0⟩ := block_cellF (o := 0) (v := .bool false) hb2 rfl
  have k2 : Ex w w2 := F2.exA (by (try show Ex _ _); with_reducible repeat (first | exact ex_refl _ | assumption | refine ex_drewL ?_ | refine ex_appR ?_ _ | refine ex_wx ?_ _ | refine ex_drew ?_ | refine ex_alloc ?_ _)) (by omega)
  refine leaves_cons (f := 131) (args := #[.pointer (some ⟨w.heap.size, 0, none⟩)]) (by simp) (by simp [go_sem]) ?_
  refine (catch_off w.heap.size w2 false c0 f0).mono ?_
  rintro e u' w3 ⟨rfl, rfl, t, rfl⟩
  have k3 : Ex w ((w2.setCell ⟨w.heap.size, 0, none⟩ (.bool false)).alloc (.cells #[] t)) := ex_alloc (ex_set k2 (Nat.le_refl _) _) _
  obtain ⟨c3, f3⟩ := block_cellF (o := 0) (v := .bool false) (setCellF_block (o := 0) (.bool false) hb2) rfl
  have hz3 : w.heap.size < w2.heap.size := cell_lt c0
  replace k3 := Lib.hid k3
  simp [Leaves, settle, offP, results, Tryd.results97, go_sem, c3, hz3]
  exact ⟨rfl, k3.out⟩
theorem walks_ok {f : Nat} {cap : Array Value} (hf : ∀ args w, (callFunc f args).run Tryd.prog w = .ok (.enter f args) w) (W : Nat) (hW : W ≤ 256) (w : World) (b : Bool) (c : Cl)
    (HC : ∀ w' p, Ex w w' → w.heap.size ≤ p → Wk w' p W none → Calls Tryd.prog f (#[.pointer (some ⟨p, 0, none⟩)] ++ cap) w' (PostK p W w' (.bool b) c)) :
    Calls Tryd.prog 97 #[I W, .func (.func f) #[] cap] w fun e w' => ∃ pv, e = .returned (.tuple #[.bool b, .pointer pv]) ∧ Ex w w' ∧ ClV w' pv c := by
  have hmf : ∀ (fn : Fn) (first cap : Array Value) (w : World), (Instr.makeFunc fn first cap).run Tryd.prog w = .ok (.func fn first cap) w := fun _ _ _ _ => rfl
  have HWd : Hid (∀ w', Calls Tryd.prog 60 #[I W] w' (Post w' (.bool true))) := Lib.hid fun w' => by
    have := wide_any W w'
    rwa [show wideB W = true from decide_eq_true (by omega)] at this
  have HC2 := Lib.hid HC
  clear HC
  go_enter_defers Tryd.func97, Tryd.ntmps97
  go_wp2_with (go_at_call 60; (with_reducible refine (HWd.out _).mono ?_); rintro e w2 ⟨rfl, X, rfl⟩)
  refine (HC2.out _ _ (by (try show Ex _ _); with_reducible repeat (first | exact ex_refl _ | assumption | refine ex_drewL ?_ | refine ex_appR ?_ _ | refine ex_wx ?_ _ | refine ex_drew ?_ | refine ex_alloc ?_ _)) (by omega) (Wk.new' W (by simp [go_sem]))).mono ?_
  rintro e w2 ⟨rfl, F2, K2⟩
  dsimp only
  have hb0 : ((wx (w.alloc (.cells #[.bool false] 4)) X).alloc (.cells #[I W, .pointer none] 146)).heap[w.heap.size]? = some (.cells #[.bool false] 4 (0, 0)) := ex_block (w := w.alloc (.cells #[.bool false] 4)) (by (try show Ex _ _); with_reducible repeat (first | exact ex_refl _ | assumption | refine ex_drewL ?_ | refine ex_appR ?_ _ | refine ex_wx ?_ _ | refine ex_drew ?_ | refine ex_alloc ?_ _)) (heap_alloc_new w _)
  have hb2 := row_frm hb0 F2 (by omega)
  obtain ⟨c0, f0⟩ := block_cellF (o := 0) (v := .bool false) hb2 rfl
  have k2 : Ex w w2 := F2.exA (by (try show Ex _ _); with_reducible repeat (first | exact ex_refl _ | assumption | refine ex_drewL ?_ | refine ex_appR ?_ _ | refine ex_wx ?_ _ | refine ex_drew ?_ | refine ex_alloc ?_ _)) (by omega)
  obtain ⟨pv, hpb, hpc⟩ := K2.out
  obtain ⟨cp, fp⟩ := block_cellF (o := 1) (v := .pointer pv) hpb rfl
  replace F2 := Lib.hid F2
  replace K2 := Lib.hid K2
  replace hpc := Lib.hid hpc
  replace hpb := Lib.hid hpb
  replace hb0 := Lib.hid hb0
  replace hb2 := Lib.hid hb2
  have hz3 : w.heap.size < w2.heap.size := cell_lt c0
  have hzp : w.heap.size + 1 + X.blocks.length < w2.heap.size := cell_lt cp
  go_wp2
  have mixed : Tryd.prog.follows .mixedOrders = true := by kernel_rfl
  have hne : ¬ w.heap.size + 1 + X.blocks.length = w.heap.size := by omega
  have c0s : (w2.setCell ⟨w.heap.size, 0, none⟩ (.bool b)).cell? ⟨w.heap.size, 0, none⟩ = some (.bool b) := (block_cellF (o := 0) (v := .bool b) (setCellF_block (o := 0) (.bool b) hb2.out) rfl).1
  have hF : Frm (fun k => k = w.heap.size) w2 (((w2.setCell ⟨w.heap.size, 0, none⟩ (.bool b)).setCell ⟨w.heap.size, 0, none⟩ (.bool b)).drew) := ((((Frm.refl (fun k => k = w.heap.size) w2).set (b := w.heap.size) rfl 0 (.bool b))).set (b := w.heap.size) rfl 0 (.bool b)).drewR
  have hT : Hid (ClV (((w2.setCell ⟨w.heap.size, 0, none⟩ (.bool b)).setCell ⟨w.heap.size, 0, none⟩ (.bool b)).drew) pv c) := Lib.hid (hpc.out.frm (nok_type hb2.out (by decide) (by decide) (by decide)) hF).clv
  have hT2 : Hid ((((w2.setCell ⟨w.heap.size, 0, none⟩ (.bool b)).setCell ⟨w.heap.size, 0, none⟩ (.bool b)).drew).heap[w.heap.size]? = some (.cells #[.bool b] 4 (0, 0))) := Lib.hid (setCellF_block (o := 0) (.bool b) (setCellF_block (o := 0) (.bool b) hb2.out))
  clear hF
  refine wp_midC (fun a' w' => a'.defers = [{ target := .fn (.func 131) #[.pointer (some ⟨w.heap.size, 0, none⟩)], args := #[] }] ∧ a'.tmps.getD 4 undef = .pointer (some ⟨w.heap.size, 0, none⟩) ∧ a'.tmps.getD 5 undef = .pointer pv ∧ w'.heap[w.heap.size]? = some (.cells #[.bool b] 4 (0, 0)) ∧ Ex w w' ∧ ClV w' pv c) ?_ ?_
  · go_big_region_o
    exact ⟨rfl, rfl, rfl, hT2.out, ex_drew (ex_set (ex_set k2 (Nat.le_refl _) _) (Nat.le_refl _) _), hT.out⟩
  · rintro a' w' ⟨h1, h2, h3, h4, h5, h6⟩
    go_wp2
    show Leaves _ _ a'.tmps _ a'.defers _ _
    rw [h1]
    have h2' : a'.tmps[4]?.getD undef = .pointer (some ⟨w.heap.size, 0, none⟩) := by simpa using h2
    have h3' : a'.tmps[5]?.getD undef = .pointer pv := by simpa using h3
    obtain ⟨c4, _⟩ := block_cellF (o := 0) (v := .bool b) h4 rfl
    refine leaves_cons (f := 131) (args := #[.pointer (some ⟨w.heap.size, 0, none⟩)]) (by simp) (by simp [go_sem]) ?_
    refine (catch_idle w.heap.size w').mono ?_
    rintro e u' w3 ⟨rfl, rfl, rfl⟩
    replace h6 := Lib.hid h6
    simp [Leaves, settle, results, Tryd.results97, go_sem, h2', h3', c4]
    exact ⟨h5, h6.out⟩
end Go.Proofs.YtcdocklbpfdmeaaDoor

/- Collide: a claim: included$1, included, Includes, told, Include. -/
set_option linter.unusedSimpArgs false
set_option linter.unusedVariables false
set_option linter.unnecessarySimpa false
set_option maxRecDepth 20000
namespace Go.Proofs.YtcdocklbpfdmeaaDoor
open Go.RowKit
/-- X where it holds what A holds, but for a block whose first cell alone is kept; else A. -/
noncomputable def kq (A : World) (p : Nat) (X : World) : World := open Classical in if (∀ k, k < A.heap.size → ¬ k = p → X.heap[k]? = A.heap[k]?) ∧ X.cell? ⟨p, 0, none⟩ = A.cell? ⟨p, 0, none⟩ then X else A
theorem kq_heap (A : World) (p : Nat) (X : World) {k : Nat} (h : k < A.heap.size) (h2 : ¬ k = p) : (kq A p X).heap[k]? = A.heap[k]? := by
  unfold kq; split
  · rename_i h3; exact h3.1 k h h2
  · rfl
theorem kq_zero (A : World) (p : Nat) (X : World) : (kq A p X).cell? ⟨p, 0, none⟩ = A.cell? ⟨p, 0, none⟩ := by
  unfold kq; split
  · rename_i h3; exact h3.2
  · rfl
theorem kqF {A : World} {p : Nat} {X : World} (h : FrP p A X) (hc : X.cell? ⟨p, 0, none⟩ = A.cell? ⟨p, 0, none⟩) : X = kq A p X := by
  unfold kq; rw [if_pos ⟨h.same, hc⟩]
noncomputable def kqFar (A : World) (p : Nat) (X : World) (a : Addr) : Option Value := (kq A p X).cell? a
noncomputable def kqFarN (A : World) (p : Nat) (X : World) (b i n : Nat) : Option (Array Value) := cellsN (kq A p X) b i n
@[go_sem high] theorem kq_cell (A : World) (p : Nat) (X : World) (b i : Nat) : (kq A p X).cell? ⟨b, i, none⟩ = if b < A.heap.size ∧ (¬ b = p ∨ i = 0) then A.cell? ⟨b, i, none⟩ else kqFar A p X ⟨b, i, none⟩ := by
  split
  · rename_i h
    by_cases hb : b = p
    · subst hb
      obtain rfl : i = 0 := by have := h.2; omega
      exact kq_zero A b X
    · simp only [World.cell?, kq_heap A p X h.1 hb]
  · rfl
@[go_sem high] theorem kq_cellsN (A : World) (p : Nat) (X : World) (b i n : Nat) : cellsN (kq A p X) b i n = if b < A.heap.size ∧ ¬ b = p then cellsN A b i n else kqFarN A p X b i n := by
  split
  · rename_i h; exact cellsN_congr fun j _ => by simp only [World.cell?, kq_heap A p X h.1 h.2]
  · rfl
def PostKB (p W : Nat) (w : World) (R : Dg) (o : Option (Dg × Cl)) (e : Ending) (w' : World) : Prop := match o with
  | some x => PostK p W w (.bool (decide (x.1 = R))) x.2 e w'
  | none => e = offE ∧ FrP p w w' ∧ ∃ c, Wk w' p W c
theorem wk_zero {w w' : World} {p W : Nat} {c c' : Cl} (h : Wk w p W c) (h' : Wk w' p W c') : w'.cell? ⟨p, 0, none⟩ = w.cell? ⟨p, 0, none⟩ := h'.width.trans h.width.symm
set_option maxHeartbeats 1000000 in
theorem incl1_any {w0 A : World} (G : Glob w0) (k0 : Ex w0 A) (W : Nat) (hW : W ≤ 256) {p : Nat} (hp : A.heap.size ≤ p) {b : List UInt8} (hb : b.length ≤ 90) {bv : Value} (hbv : SlT A bv b) (l : List (List UInt8)) (la : Option Addr) (lc : Nat) (i : Nat) (path : List Dg) (pa : Option Addr) (pc : Nat) (c : Cl) (w : World) (lb cb : Nat)
    (hN : l.length ≤ 1024) (hlc : l.length ≤ lc) (hlm : lc ≤ maxLen) (hls : SlLs A la l) (hsh : ShortL l) (hi : i < l.length) (hpc : path.length ≤ pc) (hpm : pc ≤ maxLen) (hpath : SlD A pa path) (kA : Ex A w) (hk : Wk w p W c)
    (hlb : A.heap[lb]? = some (.cells #[.slice la l.length lc] 56 (0, 0))) (hcb : A.heap[cb]? = some (.cells #[I i, bv, .slice pa path.length pc] 67 (0, 0))) :
    Calls Tryd.prog 113 #[.pointer (some ⟨p, 0, none⟩), .pointer (some ⟨lb, 0, none⟩), .pointer (some ⟨cb, 0, none⟩)] w (PostKB p W w (rootC (sumW W) l) (climbC (sumW W) l i b path c)) := by
  have HC : Hid (∀ w', Ex w w' → Calls Tryd.prog 114 #[.pointer (some ⟨p, 0, none⟩), .slice la l.length lc, I i, bv, .slice pa path.length pc] w' (PostKO p W w' (climbC (sumW W) l i b path c))) :=
    Lib.hid fun w' k => wclimb_any G k0 W hW hp hb hbv l.length l la lc i path pa pc c w' rfl (by omega) hN hlc hlm hls hsh hi hpc hpm hpath (ex_trans kA k) (hk.ex k)
  have HR : Hid (∀ w', Ex A w' → Calls Tryd.prog 76 #[I W, .slice la l.length lc] w' (Post w' (.agg (rowB 32 (dF (rootC (sumW W) l)))))) := Lib.hid fun w' k => wroot_any G W hW l la lc w' hN hlc hlm (hls.ex k) hsh (ex_trans k0 k)
  have hlw := ex_block kA hlb
  have hcw := ex_block kA hcb
  have l0 := cell_of_row w lb 0 _ _ _ hlw
  have c0 := cell_of_row w cb 0 _ _ _ hcw
  have c1 := cell_of_row w cb 1 _ _ _ hcw
  have c2 := cell_of_row w cb 2 _ _ _ hcw
  have zl := (Array.getElem?_eq_some_iff.1 hlw).1
  have zc := (Array.getElem?_eq_some_iff.1 hcw).1
  have nl : ¬ lb = p := by have := (Array.getElem?_eq_some_iff.1 hlb).1; omega
  have nc : ¬ cb = p := by have := (Array.getElem?_eq_some_iff.1 hcb).1; omega
  have hw0 := hk.width
  have hpw := hk.lt
  have HK := Lib.hid hk
  generalize climbC (sumW W) l i b path c = o at HC ⊢
  generalize rootC (sumW W) l = R at HR ⊢
  generalize l.length = N at *
  generalize path.length = pn at *
  obtain ⟨ba, bc, rfl, _, _, _⟩ := hbv.out
  clear hk hls hpath hlb hcb hlw hcw hbv
  cases o with
  | none =>
    have HC2 : Hid (∀ w', Ex w w' → Calls Tryd.prog 114 _ w' (fun e w2 => e = offE ∧ FrP p w' w2 ∧ ∃ c, Wk w2 p W c)) := HC
    go_enter Tryd.func113, Tryd.ntmps113
    go_wp2
    refine wp_region_forkH (fun w' => ∃ X, w' = kq w p X) (.look 0 (.look 1 (.look 2 (.look 3 (.look 4 (.look 5 (.look 6 (.look 7 (.look 9 (.look 10 (.look 11 (.look 12 (.look 13 (.eff 8 (.eff 14 (.look 15 (.look 16 .done))))))))))))))))) (⟨_, kqF (Frm.refl _ _).drewR rfl⟩) (by kernel_rfl) (by kernel_rfl) (fun _ _ d _ _ h => by cases d <;> exact h) ?_
    simp only [Fk.ops, nth]
    repeat (first | ((with_reducible refine wpForkH_look ?_); go_big_quiet_step (fail); (try (with_reducible refine wpQuiet_nil ?_))) | (with_reducible refine wpForkH_eff ?_) | ((with_reducible refine effH_F ?_ ?_); (focus rfl); go_simp) | ((with_reducible refine effH_T ?_ ?_); (focus rfl); (try dsimp only); go_wp2_with ((go_at_call 114; (with_reducible refine (HC2.out _ (by (try show Ex _ _); with_reducible repeat (first | exact ex_refl _ | assumption | refine ex_drewL ?_ | refine ex_appR ?_ _ | refine ex_wx ?_ _ | refine ex_drew ?_ | refine ex_alloc ?_ _))).mono ?_); rintro e w2 ⟨rfl, F2', c2, K2⟩; dsimp only [offE]; exact ⟨rfl, rfl, (Frm.ex (by (try show Ex _ _); with_reducible repeat (first | exact ex_refl _ | assumption | refine ex_drewL ?_ | refine ex_appR ?_ _ | refine ex_wx ?_ _ | refine ex_drew ?_ | refine ex_alloc ?_ _))).trans F2', c2, K2⟩)); (first | done | refine mixQH_mk (⟨_, kqF (Frm.ex (by (try show Ex _ _); with_reducible repeat (first | exact ex_refl _ | assumption | refine ex_drewL ?_ | refine ex_appR ?_ _ | refine ex_wx ?_ _ | refine ex_drew ?_ | refine ex_alloc ?_ _))) (wk_zero HK.out (HK.out.ex (by (try show Ex _ _); with_reducible repeat (first | exact ex_refl _ | assumption | refine ex_drewL ?_ | refine ex_appR ?_ _ | refine ex_wx ?_ _ | refine ex_drew ?_ | refine ex_alloc ?_ _))))⟩) ?_)))
    all_goals (with_reducible refine wpForkH_nil ?_)
  | some xc =>
    obtain ⟨x, c1'⟩ := xc
    have HC2 : Hid (∀ w', Ex w w' → Calls Tryd.prog 114 _ w' (PostK p W w' (.agg (rowB 32 (dF x))) c1')) := HC
    have he := eqD x R
    unfold PostKB
    simp only
    generalize decide (x = R) = bb at he ⊢
    go_enter Tryd.func113, Tryd.ntmps113
    go_wp2
    refine wp_region_forkH (fun w' => ∃ X, w' = kq w p X) (.look 0 (.look 1 (.look 2 (.look 3 (.look 4 (.look 5 (.look 6 (.look 7 (.look 9 (.look 10 (.look 11 (.look 12 (.look 13 (.eff 8 (.eff 14 (.look 15 (.look 16 .done))))))))))))))))) (⟨_, kqF (Frm.refl _ _).drewR rfl⟩) (by kernel_rfl) (by kernel_rfl) (fun _ _ d _ _ h => by cases d <;> exact h) ?_
    simp only [Fk.ops, nth]
    repeat (first | ((with_reducible refine wpForkH_look ?_); go_big_quiet_step (fail); (try (with_reducible refine wpQuiet_nil ?_))) | (with_reducible refine wpForkH_eff ?_) | ((with_reducible refine effH_F ?_ ?_); (focus rfl); go_simp) | ((with_reducible refine effH_T ?_ ?_); (focus rfl); (try dsimp only); go_wp2_with (first | (go_at_call 114; (with_reducible refine (HC2.out _ (by (try show Ex _ _); with_reducible repeat (first | exact ex_refl _ | assumption | refine ex_drewL ?_ | refine ex_appR ?_ _ | refine ex_wx ?_ _ | refine ex_drew ?_ | refine ex_alloc ?_ _))).mono ?_); rintro e w2 ⟨rfl, F2', K2⟩; have F2 : FrP p w w2 := (Frm.ex (by (try show Ex _ _); with_reducible repeat (first | exact ex_refl _ | assumption | refine ex_drewL ?_ | refine ex_appR ?_ _ | refine ex_wx ?_ _ | refine ex_drew ?_ | refine ex_alloc ?_ _))).trans F2'; have kA2 : Ex A w2 := F2.exA kA hp; clear F2') | (go_at_call 76; (with_reducible refine (HR.out _ (ex_trans kA2 (by (try show Ex _ _); with_reducible repeat (first | exact ex_refl _ | assumption | refine ex_drewL ?_ | refine ex_appR ?_ _ | refine ex_wx ?_ _ | refine ex_drew ?_ | refine ex_alloc ?_ _)))).mono ?_); rintro e w3 ⟨rfl, X, rfl⟩)); (first | done | refine mixQH_mk (⟨_, by first | exact kqF (F2.trans (Frm.ex (by (try show Ex _ _); with_reducible repeat (first | exact ex_refl _ | assumption | refine ex_drewL ?_ | refine ex_appR ?_ _ | refine ex_wx ?_ _ | refine ex_drew ?_ | refine ex_alloc ?_ _)))) (wk_zero HK.out (K2.ex (by (try show Ex _ _); with_reducible repeat (first | exact ex_refl _ | assumption | refine ex_drewL ?_ | refine ex_appR ?_ _ | refine ex_wx ?_ _ | refine ex_drew ?_ | refine ex_alloc ?_ _)))) | exact kqF F2 (wk_zero HK.out K2) | exact kqF (Frm.ex (by (try show Ex _ _); with_reducible repeat (first | exact ex_refl _ | assumption | refine ex_drewL ?_ | refine ex_appR ?_ _ | refine ex_wx ?_ _ | refine ex_drew ?_ | refine ex_alloc ?_ _))) (wk_zero HK.out (HK.out.ex (by (try show Ex _ _); with_reducible repeat (first | exact ex_refl _ | assumption | refine ex_drewL ?_ | refine ex_appR ?_ _ | refine ex_wx ?_ _ | refine ex_drew ?_ | refine ex_alloc ?_ _))))⟩) ?_)))
    all_goals (with_reducible refine wpForkH_nil ?_)
    go_wp2
    go_ret
    exact ⟨rfl, F2.trans (Frm.ex (by (try show Ex _ _); with_reducible repeat (first | exact ex_refl _ | assumption | refine ex_drewL ?_ | refine ex_appR ?_ _ | refine ex_wx ?_ _ | refine ex_drew ?_ | refine ex_alloc ?_ _))), K2.ex (by (try show Ex _ _); with_reducible repeat (first | exact ex_refl _ | assumption | refine ex_drewL ?_ | refine ex_appR ?_ _ | refine ex_wx ?_ _ | refine ex_drew ?_ | refine ex_alloc ?_ _))⟩
/-- What is accepted, of what is climbed to. -/
def outC (R : Dg) : Option (Dg × Cl) → Bool × Cl
  | some x => (decide (x.1 = R), x.2)
  | none => (false, none)
/-- Whether a claim is accepted, and its first clash. -/
def inclC (W : Int) (l : List (List UInt8)) (i : Int) (b : List UInt8) (path : List Dg) : Bool × Cl :=
  if l.length ≤ 1024 ∧ 0 ≤ i ∧ i < l.length ∧ 0 ≤ W ∧ W ≤ 256 then outC (rootC (sumW W.toNat) l) (climbC (sumW W.toNat) l i.toNat b path none) else (false, none)
def PostBC (w : World) (r : Bool × Cl) (e : Ending) (w' : World) : Prop := ∃ pv, e = .returned (.tuple #[.bool r.1, .pointer pv]) ∧ Ex w w' ∧ ClV w' pv r.2
theorem walks_nw {f : Value} (W : Int) (hW : wideB W = false) (w : World) : Calls Tryd.prog 97 #[I W, f] w (PostBC w (false, none)) := by
  have HWd : Hid (∀ w', Calls Tryd.prog 60 #[I W] w' (Post w' (.bool false))) := Lib.hid fun w' => by
    have := wide_any W w'
    rwa [hW] at this
  clear hW
  go_enter_defers Tryd.func97, Tryd.ntmps97
  go_wp2_with (go_at_call 60; (with_reducible refine (HWd.out _).mono ?_); rintro e w2 ⟨rfl, X, rfl⟩)
  simp [bodyPostD, Leaves, settle, results, Tryd.results97, go_sem]
  exact ⟨none, rfl, (by (try show Ex _ _); with_reducible repeat (first | exact ex_refl _ | assumption | refine ex_drewL ?_ | refine ex_appR ?_ _ | refine ex_wx ?_ _ | refine ex_drew ?_ | refine ex_alloc ?_ _)), rfl⟩
set_option maxHeartbeats 1000000 in
theorem included_any {w0 : World} (G : Glob w0) (W : Int) {b : List UInt8} (hb : b.length ≤ 90) {bv : Value} (l : List (List UInt8)) (la : Option Addr) (lc : Nat) (i : Int) (path : List Dg) (pa : Option Addr) (pc : Nat) (w : World)
    (hlc : l.length ≤ lc) (hlm : lc ≤ maxLen) (hls : l.length ≤ 1024 → SlLs w la l ∧ ShortL l) (hbv : bv.oneCell' = true) (hbs : l.length ≤ 1024 → SlT w bv b) (hpc : path.length ≤ pc) (hpm : pc ≤ maxLen) (hpath : SlD w pa path) (k0 : Ex w0 w) :
    Calls Tryd.prog 73 #[I W, .slice la l.length lc, .agg #[I i, bv, .slice pa path.length pc]] w (PostBC w (inclC W l i b path)) := by
  have HO : Hid (l.length ≤ 1024 ∧ 0 ≤ i ∧ i < l.length → ∀ w', Ex ((w.alloc (.cells #[.slice la l.length lc] 56)).alloc (.cells #[I i, bv, .slice pa path.length pc] 67)) w' →
      Calls Tryd.prog 97 #[I W, .func (.func 113) #[] #[.pointer (some ⟨w.heap.size, 0, none⟩), .pointer (some ⟨w.heap.size + 1, 0, none⟩)]] w' (PostBC w' (inclC W l i b path))) := Lib.hid fun ⟨h1, h2, h3⟩ w' k => by
    by_cases hw : 0 ≤ W ∧ W ≤ 256
    · obtain ⟨N, rfl⟩ : ∃ N : Nat, W = N := ⟨W.toNat, by omega⟩
      obtain ⟨q, rfl⟩ : ∃ q : Nat, i = q := ⟨i.toNat, by omega⟩
      unfold inclC
      rw [if_pos ⟨h1, h2, h3, hw⟩, Int.toNat_natCast, Int.toNat_natCast]
      have kw : Ex w w' := ex_trans (ex_alloc (ex_alloc (ex_refl _) _) _) k
      have b1 := ex_block (ex_trans (ex_alloc (ex_refl _) _) k) (heap_alloc_new w (.cells #[.slice la l.length lc] 56))
      have b2 := ex_block k (heap_alloc_new (w.alloc (.cells #[.slice la l.length lc] 56)) (.cells #[I q, bv, .slice pa path.length pc] 67))
      rw [World.size_alloc] at b2
      have hI := fun w2 p (k2 : Ex w' w2) (hp : w'.heap.size ≤ p) (hk : Wk w2 p N none) => incl1_any (A := w') G (ex_trans k0 kw) N (by omega) hp hb ((hbs h1).ex kw) l la lc q path pa pc none w2 w.heap.size (w.heap.size + 1) h1 hlc hlm ((hls h1).1.ex kw) (hls h1).2 (by omega) hpc hpm (hpath.ex kw) k2 hk b1 b2
      cases hc : climbC (sumW N) l q b path none with
      | none =>
        refine (walks_off (f := 113) (fun _ _ => rfl) N (by omega) w' fun w2 p k2 hp hk => ?_).mono fun e w3 ⟨h1, h2⟩ => ⟨none, h1, h2, rfl⟩
        have := hI w2 p k2 hp hk
        rw [hc] at this
        exact this
      | some x =>
        obtain ⟨x, c⟩ := x
        refine walks_ok (f := 113) (fun _ _ => rfl) N (by omega) w' _ c fun w2 p k2 hp hk => ?_
        have := hI w2 p k2 hp hk
        rw [hc] at this
        exact this
    · have he : inclC W l i b path = (false, none) := by unfold inclC; rw [if_neg (by rintro ⟨_, _, _, h⟩; exact hw h)]
      rw [he]
      exact walks_nw W (decide_eq_false hw) w'
  have HF : Hid (¬ (l.length ≤ 1024 ∧ 0 ≤ i ∧ i < l.length) → inclC W l i b path = (false, none)) := Lib.hid fun h => by
    unfold inclC; rw [if_neg (by rintro ⟨h1, h2, h3, _⟩; exact h ⟨h1, h2, h3⟩)]
  generalize inclC W l i b path = r at HO HF ⊢
  generalize l.length = n at *
  generalize path.length = pn at *
  clear hls hbs hpath
  unfold maxLen at hlm hpm
  by_cases h1 : n ≤ 1024
  · have t1 : decide ((1024 : Int) < n) = false := decide_eq_false (by omega)
    by_cases h2 : 0 ≤ i
    · have t2 : decide (i < 0) = false := decide_eq_false (by omega)
      by_cases h3 : i < n
      · have t3 : decide ((n : Int) ≤ i) = false := decide_eq_false (by omega)
        have HO2 := Lib.hid (HO.out ⟨h1, h2, h3⟩)
        go_enter Tryd.func73, Tryd.ntmps73
        go_wp2_with (go_at_call 97; (with_reducible refine (HO2.out _ (by (try show Ex _ _); with_reducible repeat (first | exact ex_refl _ | assumption | refine ex_drewL ?_ | refine ex_appR ?_ _ | refine ex_wx ?_ _ | refine ex_drew ?_ | refine ex_alloc ?_ _))).mono ?_); rintro e w2 ⟨pv, rfl, k2, hc2⟩)
        go_ret2
        exact ⟨pv, rfl, ex_trans (by (try show Ex _ _); with_reducible repeat (first | exact ex_refl _ | assumption | refine ex_drewL ?_ | refine ex_appR ?_ _ | refine ex_wx ?_ _ | refine ex_drew ?_ | refine ex_alloc ?_ _)) k2, hc2⟩
      · have t3 : decide ((n : Int) ≤ i) = true := decide_eq_true (by omega)
        rw [HF.out (by omega)]
        go_enter Tryd.func73, Tryd.ntmps73
        go_wp2
        go_ret2
        exact ⟨none, rfl, (by (try show Ex _ _); with_reducible repeat (first | exact ex_refl _ | assumption | refine ex_drewL ?_ | refine ex_appR ?_ _ | refine ex_wx ?_ _ | refine ex_drew ?_ | refine ex_alloc ?_ _)), rfl⟩
    · have t2 : decide (i < 0) = true := decide_eq_true (by omega)
      rw [HF.out (by omega)]
      go_enter Tryd.func73, Tryd.ntmps73
      go_wp2
      go_ret2
      exact ⟨none, rfl, (by (try show Ex _ _); with_reducible repeat (first | exact ex_refl _ | assumption | refine ex_drewL ?_ | refine ex_appR ?_ _ | refine ex_wx ?_ _ | refine ex_drew ?_ | refine ex_alloc ?_ _)), rfl⟩
  · have t1 : decide ((1024 : Int) < n) = true := decide_eq_true (by omega)
    rw [HF.out (by omega)]
    go_enter Tryd.func73, Tryd.ntmps73
    go_wp2
    go_ret2
    exact ⟨none, rfl, (by (try show Ex _ _); with_reducible repeat (first | exact ex_refl _ | assumption | refine ex_drewL ?_ | refine ex_appR ?_ _ | refine ex_wx ?_ _ | refine ex_drew ?_ | refine ex_alloc ?_ _)), rfl⟩
theorem includes_bc {w : World} (W : Int) (sv cv : Value) (r : Bool × Cl) (hcv : ∃ i bv pv, cv = .agg #[I i, bv, pv] ∧ bv.oneCell' = true ∧ pv.oneCell' = true) (H : ∀ w', Ex w w' → Calls Tryd.prog 73 #[I W, sv, cv] w' (PostBC w' r)) :
    Calls Tryd.prog 33 #[I W, sv, cv] w (Post w (.bool r.1)) := by
  obtain ⟨i, bv, pv, rfl, hb, hp⟩ := hcv
  have HH := Lib.hid H
  clear H
  go_enter Tryd.func33, Tryd.ntmps33
  go_wp2_with (go_at_call 73; (with_reducible refine (HH.out _ (by (try show Ex _ _); with_reducible repeat (first | exact ex_refl _ | assumption | refine ex_drewL ?_ | refine ex_appR ?_ _ | refine ex_wx ?_ _ | refine ex_drew ?_ | refine ex_alloc ?_ _))).mono ?_); rintro e w2 ⟨qv, rfl, k2, hc2⟩)
  go_ret
  exact post_mk rfl (ex_trans (by (try show Ex _ _); with_reducible repeat (first | exact ex_refl _ | assumption | refine ex_drewL ?_ | refine ex_appR ?_ _ | refine ex_wx ?_ _ | refine ex_drew ?_ | refine ex_alloc ?_ _)) k2)
/-- A clash that is told. -/
def PostCl (w : World) (o : Cl) (e : Ending) (w' : World) : Prop := ∃ sa sb, e = .returned (.tuple #[.agg #[sa, sb], .bool o.isSome]) ∧ Ex w w' ∧ (match o with | none => sa = .slice none 0 0 ∧ sb = .slice none 0 0 | some x => OwnU w' sa x.1 ∧ OwnU w' sb x.2)
def tellC (b : Bool) (c : Cl) : Cl := if b then c else none
theorem info_clash : (Tryd.prog.info? 37).map (·.size) = some 2 := by kernel_rfl
@[go_sem] theorem load_clash (b o : Nat) (w : World) : loadRun Tryd.prog 37 (.pointer (some ⟨b, o, none⟩)) w = match cellsN w b o 2 with | some cs => .ok (.value (.agg cs)) w | none => loadRaw Tryd.prog 37 (.pointer (some ⟨b, o, none⟩)) w := loadRun_row Tryd.underlying37 rfl info_clash b o w
@[go_sem] theorem store_clash (b o : Nat) (vs : Array Value) (w : World) : storeRun Tryd.prog 37 (.pointer (some ⟨b, o, none⟩)) (.agg vs) w = if (vs.size == 2 && (cellsN w b o 2).isSome && !frozenN w b o 2 && oneCells vs) = true then .ok .skip (w.setCells b o vs.toList) else storeRaw Tryd.prog 37 (.pointer (some ⟨b, o, none⟩)) (.agg vs) w := storeRun_row info_clash b o vs w
theorem ownu_one {w : World} {v : Value} {l : List UInt8} (h : OwnU w v l) : v.oneCell' = true := by
  rcases h.2 with ⟨rfl, _⟩ | ⟨g, cap, cur, rfl, _⟩ <;> rfl
theorem told_any (b : Bool) (c : Cl) (pv : Option Addr) (w : World) (hc : ClV w pv c) : Calls Tryd.prog 59 #[.bool b, .pointer pv] w (PostCl w (tellC b c)) := by
  cases b with
  | false =>
    have e : tellC false c = none := rfl
    rw [e]
    clear hc e
    go_enter Tryd.func59, Tryd.ntmps59
    go_wp2
    exact ret_rowV (cs := #[.slice none 0 0, .slice none 0 0]) Tryd.results59 Tryd.underlying37 rfl info_clash rfl (by simp [go_sem]) rfl rfl ⟨_, _, rfl, (by (try show Ex _ _); with_reducible repeat (first | exact ex_refl _ | assumption | refine ex_drewL ?_ | refine ex_appR ?_ _ | refine ex_wx ?_ _ | refine ex_drew ?_ | refine ex_alloc ?_ _)), rfl, rfl⟩
  | true =>
    have e : tellC true c = c := rfl
    rw [e]
    clear e
    cases c with
    | none =>
      obtain rfl : pv = none := hc
      go_enter Tryd.func59, Tryd.ntmps59
      go_wp2
      exact ret_rowV (cs := #[.slice none 0 0, .slice none 0 0]) Tryd.results59 Tryd.underlying37 rfl info_clash rfl (by simp [go_sem]) rfl rfl ⟨_, _, rfl, (by (try show Ex _ _); with_reducible repeat (first | exact ex_refl _ | assumption | refine ex_drewL ?_ | refine ex_appR ?_ _ | refine ex_wx ?_ _ | refine ex_drew ?_ | refine ex_alloc ?_ _)), rfl, rfl⟩
    | some x =>
      obtain ⟨q, sa, sb, rfl, hq, h1, h2⟩ := hc
      have h3 := (block_cellsF (n := 2) hq rfl).1
      have o1 := ownu_one h1
      have o2 := ownu_one h2
      have H1 := Lib.hid h1
      have H2 := Lib.hid h2
      have hz := (Array.getElem?_eq_some_iff.1 hq).1
      clear hq h1 h2
      go_enter Tryd.func59, Tryd.ntmps59
      go_wp2
      exact ret_rowV (cs := #[sa, sb]) Tryd.results59 Tryd.underlying37 rfl info_clash rfl (by simp [go_sem]) rfl rfl ⟨_, _, rfl, (by (try show Ex _ _); with_reducible repeat (first | exact ex_refl _ | assumption | refine ex_drewL ?_ | refine ex_appR ?_ _ | refine ex_wx ?_ _ | refine ex_drew ?_ | refine ex_alloc ?_ _)), H1.out.ex (by (try show Ex _ _); with_reducible repeat (first | exact ex_refl _ | assumption | refine ex_drewL ?_ | refine ex_appR ?_ _ | refine ex_wx ?_ _ | refine ex_drew ?_ | refine ex_alloc ?_ _)), H2.out.ex (by (try show Ex _ _); with_reducible repeat (first | exact ex_refl _ | assumption | refine ex_drewL ?_ | refine ex_appR ?_ _ | refine ex_wx ?_ _ | refine ex_drew ?_ | refine ex_alloc ?_ _))⟩
theorem ClV.ex {w w' : World} {pv : Option Addr} {c : Cl} (h : ClV w pv c) (k : Ex w w') : ClV w' pv c := by
  cases c with
  | none => exact h
  | some x =>
    obtain ⟨q, sa, sb, e1, e3, e4, e5⟩ := h
    exact ⟨q, sa, sb, e1, ex_block k e3, e4.ex k, e5.ex k⟩
def ClS (w : World) (sa sb : Value) : Cl → Prop
  | none => sa = .slice none 0 0 ∧ sb = .slice none 0 0
  | some x => OwnU w sa x.1 ∧ OwnU w sb x.2
theorem ClS.ex {w w' : World} {sa sb : Value} {c : Cl} (h : ClS w sa sb c) (k : Ex w w') : ClS w' sa sb c := by
  cases c with
  | none => exact h
  | some x => exact ⟨h.1.ex k, h.2.ex k⟩
theorem ClS.frm {w w' : World} {sa sb : Value} {c : Cl} {F : Nat → Prop} (h : ClS w sa sb c) (hF : NoU w F) (k : Frm F w w') : ClS w' sa sb c := by
  cases c with
  | none => exact h
  | some x => exact ⟨h.1.frm hF k, h.2.frm hF k⟩
theorem ClS.turn {w : World} {X : More} {cs cs' : Array Value} {t : TypeId} {sa sb : Value} {c : Cl} (h : ClS (wx (w.alloc (.cells cs t)) X) sa sb c) (ht : t ≠ 5) : ClS (wx (w.alloc (.cells cs' t)) X) sa sb c :=
  h.frm (nou_type (turn_block _ _ _) ht) (frm_turn _ _ _ _)
theorem ClS.one {w : World} {sa sb : Value} {c : Cl} (h : ClS w sa sb c) : sa.oneCell' = true ∧ sb.oneCell' = true := by
  cases c with
  | none => obtain ⟨rfl, rfl⟩ := h; exact ⟨rfl, rfl⟩
  | some x => exact ⟨ownu_one h.1, ownu_one h.2⟩
theorem told_s (b : Bool) (c : Cl) (pv : Option Addr) (w : World) (hc : ClV w pv c) : Calls Tryd.prog 59 #[.bool b, .pointer pv] w fun e w' => ∃ sa sb, e = .returned (.tuple #[.agg #[sa, sb], .bool (tellC b c).isSome]) ∧ Ex w w' ∧ ClS w' sa sb (tellC b c) := 
  (told_any b c pv w hc).mono fun e w' ⟨sa, sb, h1, h2, h3⟩ => ⟨sa, sb, h1, h2, by unfold ClS; cases hh : tellC b c <;> rw [hh] at h3 <;> exact h3⟩
/-- The clash of a claim. -/
def inclT (W : Int) (l : List (List UInt8)) (i : Int) (b : List UInt8) (path : List Dg) : Cl := tellC ((inclC W l i b path).1 && !decide (b = l.getD i.toNat [])) (inclC W l i b path).2
theorem incl_true {W : Int} {l : List (List UInt8)} {i : Int} {b : List UInt8} {path : List Dg} (h : (inclC W l i b path).1 = true) : l.length ≤ 1024 ∧ 0 ≤ i ∧ i < l.length ∧ 0 ≤ W ∧ W ≤ 256 := by
  unfold inclC at h
  split at h
  · assumption
  · cases h
set_option maxHeartbeats 1000000 in
theorem include_any {w0 : World} (G : Glob w0) (W : Int) {b : List UInt8} (hb : b.length ≤ 90) {bv : Value} (l : List (List UInt8)) (la : Option Addr) (lc : Nat) (i : Int) (path : List Dg) (pa : Option Addr) (pc : Nat) (w : World)
    (hlc : l.length ≤ lc) (hlm : lc ≤ maxLen) (hls : l.length ≤ 1024 → SlLs w la l ∧ ShortL l) (hbv : bv.oneCell' = true) (hbs : l.length ≤ 1024 → SlT w bv b) (hpc : path.length ≤ pc) (hpm : pc ≤ maxLen) (hpath : SlD w pa path) (k0 : Ex w0 w) :
    Calls Tryd.prog 31 #[I W, .slice la l.length lc, .agg #[I i, bv, .slice pa path.length pc]] w fun e w' => ∃ sa sb, e = .returned (.tuple #[.agg #[sa, sb], .bool (inclT W l i b path).isSome]) ∧ Ex w w' ∧ ClS w' sa sb (inclT W l i b path) := by
  have HI : Hid (∀ w', Ex w w' → Calls Tryd.prog 73 #[I W, .slice la l.length lc, .agg #[I i, bv, .slice pa path.length pc]] w' (PostBC w' (inclC W l i b path))) :=
    Lib.hid fun w' k => included_any G W hb l la lc i path pa pc w' hlc hlm (fun h => ⟨(hls h).1.ex k, (hls h).2⟩) hbv (fun h => (hbs h).ex k) hpc hpm (hpath.ex k) (ex_trans k0 k)
  have HT := Lib.hid (fun b c pv w h => told_s b c pv w h)
  have hit := incl_true (W := W) (l := l) (i := i) (b := b) (path := path)
  unfold inclT
  generalize inclC W l i b path = r at HI hit ⊢
  obtain ⟨r, c⟩ := r
  simp only at HI hit ⊢
  cases r with
  | false =>
    have HI2 : Hid (∀ w', Ex w w' → Calls Tryd.prog 73 #[I W, .slice la l.length lc, .agg #[I i, bv, .slice pa path.length pc]] w' (PostBC w' (false, c))) := HI
    rw [Bool.false_and]
    clear hit hls hbs hpath
    go_enter Tryd.func31, Tryd.ntmps31
    go_wp2_with (go_at_call 73; (with_reducible refine (HI2.out _ (by (try show Ex _ _); with_reducible repeat (first | exact ex_refl _ | assumption | refine ex_drewL ?_ | refine ex_appR ?_ _ | refine ex_wx ?_ _ | refine ex_drew ?_ | refine ex_alloc ?_ _))).mono ?_); rintro e w2 ⟨qv, rfl, ⟨X, rfl⟩, hc2⟩; dsimp only)
    refine wp_region_seqA (w.alloc (.cells #[I i, bv, .slice pa path.length pc] 67)) [(0, true), (1, true), (2, true), (3, true), (4, true), (5, true), (6, true), (7, true), (8, true), (12, true), (9, false), (10, true), (11, true), (13, false), (14, true), (15, true), (16, false), (17, true)] (by (try show Ex _ _); with_reducible repeat (first | exact ex_refl _ | assumption | refine ex_drewL ?_ | refine ex_appR ?_ _ | refine ex_wx ?_ _ | refine ex_drew ?_ | refine ex_alloc ?_ _)) (by kernel_rfl) (by kernel_rfl) (fun _ _ d _ _ h => by cases d <;> exact h) ?_
    simp only [List.map_cons, List.map_nil, nth]
    repeat (first | ((with_reducible refine wpSeq_look ?_); go_big_quiet_step (fail); (with_reducible refine wpQuiet_nil ?_)) | ((with_reducible refine wpSeq_effF ?_ ?_); (focus rfl); go_simp) | ((with_reducible refine wpSeq_eff ?_ ?_); (focus rfl); (try dsimp only); go_wp2_with ((go_at_call 59; (with_reducible refine (HT.out _ _ _ _ (ClV.ex hc2 (by (try show Ex _ _); with_reducible repeat (first | exact ex_refl _ | assumption | refine ex_drewL ?_ | refine ex_appR ?_ _ | refine ex_wx ?_ _ | refine ex_drew ?_ | refine ex_alloc ?_ _)))).mono ?_); rintro e w3 ⟨sa, sb, rfl, ⟨X3, rfl⟩, hs⟩; obtain ⟨o1, o2⟩ := hs.one; replace hs := Lib.hid hs)); refine mixQ_mk (by (try show Ex _ _); with_reducible repeat (first | exact ex_refl _ | assumption | refine ex_drewL ?_ | refine ex_appR ?_ _ | refine ex_wx ?_ _ | refine ex_drew ?_ | refine ex_alloc ?_ _)) ?_))
    refine wpSeq_nil ?_
    go_wp2
    exact ret_rowV (cs := #[sa, sb]) Tryd.results31 Tryd.underlying37 rfl info_clash rfl (by simp [go_sem]) rfl rfl ⟨_, _, rfl, (by (try show Ex _ _); with_reducible repeat (first | exact ex_refl _ | assumption | refine ex_drewL ?_ | refine ex_appR ?_ _ | refine ex_wx ?_ _ | refine ex_drew ?_ | refine ex_alloc ?_ _)), by have h := hs.out; simp only [wx_wx, wx_drew] at h; exact h.turn (by decide)⟩
  | true =>
    obtain ⟨hl1, hi1, hi2, hw1, hw2⟩ := hit rfl
    obtain ⟨q, rfl⟩ : ∃ q : Nat, i = q := ⟨i.toNat, by omega⟩
    obtain ⟨g, off, rfl, hg, hcell⟩ := (hls hl1).1.pos (by omega)
    obtain ⟨xv, hx1, hx2⟩ := hcell q _ (List.getElem?_eq_getElem (show q < l.length by omega))
    have hgd : l.getD q [] = l[q]'(by omega) := by rw [List.getD_eq_getElem?_getD, List.getElem?_eq_getElem (show q < l.length by omega)]; rfl
    rw [Int.toNat_natCast, hgd]
    have HE : Hid (∀ w', Ex w w' → Calls Tryd.prog 35 #[bv, xv] w' (Post w' (.bool (decide (b = l[q]'(by omega)))))) := Lib.hid fun w' k => bytesEq_any ((hbs hl1).ex k) (hx2.ex k)
    have HI2 : Hid (∀ w', Ex w w' → Calls Tryd.prog 73 #[I W, .slice (some ⟨g, off, none⟩) l.length lc, .agg #[I q, bv, .slice pa path.length pc]] w' (PostBC w' (true, c))) := HI
    rw [Bool.true_and]
    generalize decide (b = l[q]'(by omega)) = bb at HE ⊢
    have hxo : xv.oneCell' = true := by obtain ⟨_, _, rfl, _⟩ := hx2.out; rfl
    clear hit hls hbs hpath hcell hgd hx2
    generalize l.length = n at *
    generalize path.length = pn at *
    unfold maxLen at hlm
    go_enter Tryd.func31, Tryd.ntmps31
    go_wp2_with (go_at_call 73; (with_reducible refine (HI2.out _ (by (try show Ex _ _); with_reducible repeat (first | exact ex_refl _ | assumption | refine ex_drewL ?_ | refine ex_appR ?_ _ | refine ex_wx ?_ _ | refine ex_drew ?_ | refine ex_alloc ?_ _))).mono ?_); rintro e w2 ⟨qv, rfl, ⟨X, rfl⟩, hc2⟩; dsimp only)
    refine wp_region_seqA (w.alloc (.cells #[I q, bv, .slice pa pn pc] 67)) [(0, true), (1, true), (2, true), (3, true), (4, true), (5, true), (6, true), (7, true), (8, true), (12, true), (9, false), (10, true), (11, true), (13, false), (14, true), (15, true), (16, false), (17, true)] (by (try show Ex _ _); with_reducible repeat (first | exact ex_refl _ | assumption | refine ex_drewL ?_ | refine ex_appR ?_ _ | refine ex_wx ?_ _ | refine ex_drew ?_ | refine ex_alloc ?_ _)) (by kernel_rfl) (by kernel_rfl) (fun _ _ d _ _ h => by cases d <;> exact h) ?_
    simp only [List.map_cons, List.map_nil, nth]
    repeat (first | ((with_reducible refine wpSeq_look ?_); go_big_quiet_step (fail); (with_reducible refine wpQuiet_nil ?_)) | ((with_reducible refine wpSeq_effF ?_ ?_); (focus rfl); go_simp) | ((with_reducible refine wpSeq_eff ?_ ?_); (focus rfl); (try dsimp only); go_wp2_with (first | (go_at_call 35; (with_reducible refine (HE.out _ (by (try show Ex _ _); with_reducible repeat (first | exact ex_refl _ | assumption | refine ex_drewL ?_ | refine ex_appR ?_ _ | refine ex_wx ?_ _ | refine ex_drew ?_ | refine ex_alloc ?_ _))).mono ?_); rintro e w3 ⟨rfl, X2, rfl⟩) | (go_at_call 59; (with_reducible refine (HT.out _ _ _ _ (ClV.ex hc2 (by (try show Ex _ _); with_reducible repeat (first | exact ex_refl _ | assumption | refine ex_drewL ?_ | refine ex_appR ?_ _ | refine ex_wx ?_ _ | refine ex_drew ?_ | refine ex_alloc ?_ _)))).mono ?_); rintro e w3 ⟨sa, sb, rfl, ⟨X3, rfl⟩, hs⟩; obtain ⟨o1, o2⟩ := hs.one; replace hs := Lib.hid hs)); refine mixQ_mk (by (try show Ex _ _); with_reducible repeat (first | exact ex_refl _ | assumption | refine ex_drewL ?_ | refine ex_appR ?_ _ | refine ex_wx ?_ _ | refine ex_drew ?_ | refine ex_alloc ?_ _)) ?_))
    refine wpSeq_nil ?_
    go_wp2
    exact ret_rowV (cs := #[sa, sb]) Tryd.results31 Tryd.underlying37 rfl info_clash rfl (by simp [go_sem]) rfl rfl ⟨_, _, rfl, (by (try show Ex _ _); with_reducible repeat (first | exact ex_refl _ | assumption | refine ex_drewL ?_ | refine ex_appR ?_ _ | refine ex_wx ?_ _ | refine ex_drew ?_ | refine ex_alloc ?_ _)), by have h := hs.out; simp only [wx_wx, wx_drew] at h; exact h.turn (by decide)⟩
end Go.Proofs.YtcdocklbpfdmeaaDoor
