import Derived.Test.YtcdocklbpfdmeaaDoorMCoP

/- Collide: walks, with its deferred closure. -/
set_option linter.unusedSimpArgs false
set_option linter.unusedVariables false
set_option linter.unnecessarySimpa false
set_option maxRecDepth 20000
namespace Go.Proofs.YtcdocklbpfdmeaaDoor
open Go.RowKit
def offP (r : Bool) : PanicEntry := { v := .iface 177 (.agg #[]), recovered := r }
theorem catch_idle (b : Nat) (w : World) :
    CallsD Tryd.prog 131 #[.pointer (some ⟨b, 0, none⟩)] .returning w fun e u' w' => e = .returned (.tuple #[]) ∧ u' = .returning ∧ w' = w := by
  refine callsD_of_wpS Tryd.func131 rfl fun c₀ cs hu => ?_
  apply wpS_seq
  apply wpS_region
  simp [wpOpsS, go_sem, recoverD, hu, Tryd.ntmps131, Exit.thenS]
  refine wpS_of_wp ?_
  go_wp2
  cases c₀
  simp_all [bodyPostS, results, Tryd.results131]
theorem assert_off (w : World) : (Instr.typeAssert (.iface 177 (.agg #[])) 20 177 true).run Tryd.prog w = .ok (.tuple #[.agg #[], .bool true]) w := by
  kernel_rfl
set_option maxHeartbeats 2000000 in
theorem catch_off (b : Nat) (w : World) (old : Bool) (hb : w.cell? ⟨b, 0, none⟩ = some (.bool old)) (hz : w.frozen? ⟨b, 0, none⟩ = false) :
    CallsD Tryd.prog 131 #[.pointer (some ⟨b, 0, none⟩)] (.panicking [offP false]) w fun e u' w' => e = .returned (.tuple #[]) ∧ u' = .panicking [offP true] ∧ ∃ t, w' = (w.setCell ⟨b, 0, none⟩ (.bool false)).alloc (.cells #[] t) := by
  refine callsD_of_wpS Tryd.func131 rfl fun c₀ cs hu => ?_
  apply wpS_seq
  apply wpS_region
  simp [wpOpsS, go_sem, recoverD, hu, Tryd.ntmps131, Exit.thenS, offP]
  refine wpS_of_wp ?_
  have hta := assert_off
  have hlt : b < w.heap.size := cell_lt hb
  go_wp2
  exact ⟨rfl, _, rfl, _, by simp [results, Tryd.results131], rfl, rfl, _, rfl⟩
/-- What holds in the midst, nothing else happening ahead of it. -/
theorem wp_midC {P : Program} {c : Code} {K : Act → World → Prop} {Q : Exit → Act → World → Prop} {a : Act} {w : World} (R : Act → World → Prop)
    (h1 : c.wp P (Exit.then R fun _ _ _ => False) a w) (h2 : ∀ a' w', R a' w' → Exit.then K Q .normal a' w') : c.wp P (Exit.then K Q) a w := by
  refine Code.wp_mono (fun x a' w' h => ?_) h1
  cases x <;> first | exact h2 _ _ h | exact h.elim
theorem walks_off {f : Nat} {cap : Array Value} (hf : ∀ args w, (callFunc f args).run Tryd.prog w = .ok (.enter f args) w) (W : Nat) (hW : W ≤ 256) (w : World)
    (HC : ∀ w' p, Ex w w' → w.heap.size ≤ p → Wk w' p W none → Calls Tryd.prog f (#[.pointer (some ⟨p, 0, none⟩)] ++ cap) w' (PostKO p W w' none)) :
    Calls Tryd.prog 97 #[I W, .func (.func f) #[] cap] w (Post w (.tuple #[.bool false, .pointer none])) := by
  have hmf : ∀ (fn : Fn) (first cap : Array Value) (w : World), (Instr.makeFunc fn first cap).run Tryd.prog w = .ok (.func fn first cap) w := fun _ _ _ _ => rfl
  have HWd : Hid (∀ w', Calls Tryd.prog 60 #[I W] w' (Post w' (.bool true))) := Lib.hid fun w' => by
    have := wide_any W w'
    rwa [show wideB W = true from decide_eq_true (by omega)] at this
  have HC2 := Lib.hid HC
  clear HC
  go_enter_defers Tryd.func97, Tryd.ntmps97
  go_wp2_with (go_at_call 60; (with_reducible refine (HWd.out _).mono ?_); rintro e w2 ⟨rfl, X, rfl⟩)
  refine (HC2.out _ _ (by (try show Ex _ _); with_reducible repeat (first | exact ex_refl _ | assumption | refine ex_drewL ?_ | refine ex_appR ?_ _ | refine ex_wx ?_ _ | refine ex_drew ?_ | refine ex_alloc ?_ _)) (by omega) (Wk.new' W (by simp [go_sem]))).mono ?_
  rintro e w2 ⟨rfl, F2, c2, K2⟩
  dsimp only [offE]
  have hb0 : ((wx (w.alloc (.cells #[.bool false] 4)) X).alloc (.cells #[I W, .pointer none] 146)).heap[w.heap.size]? = some (.cells #[.bool false] 4 (0, 0)) := ex_block (w := w.alloc (.cells #[.bool false] 4)) (by (try show Ex _ _); with_reducible repeat (first | exact ex_refl _ | assumption | refine ex_drewL ?_ | refine ex_appR ?_ _ | refine ex_wx ?_ _ | refine ex_drew ?_ | refine ex_alloc ?_ _)) (heap_alloc_new w _)
  have hb2 := row_frm hb0 F2 (by omega)
  obtain ⟨c0, f0⟩ := block_cellF (o := 0) (v := .bool false) hb2 rfl
  have k2 : Ex w w2 := F2.exA (by (try show Ex _ _); with_reducible repeat (first | exact ex_refl _ | assumption | refine ex_drewL ?_ | refine ex_appR ?_ _ | refine ex_wx ?_ _ | refine ex_drew ?_ | refine ex_alloc ?_ _)) (by omega)
  refine leaves_cons (f := 131) (args := #[.pointer (some ⟨w.heap.size, 0, none⟩)]) (by simp) (by simp [go_sem]) ?_
  refine (catch_off w.heap.size w2 false c0 f0).mono ?_
  rintro e u' w3 ⟨rfl, rfl, t, rfl⟩
  have k3 : Ex w ((w2.setCell ⟨w.heap.size, 0, none⟩ (.bool false)).alloc (.cells #[] t)) := ex_alloc (ex_set k2 (Nat.le_refl _) _) _
  obtain ⟨c3, f3⟩ := block_cellF (o := 0) (v := .bool false) (setCellF_block (o := 0) (.bool false) hb2) rfl
  have hz3 : w.heap.size < w2.heap.size := cell_lt c0
  replace k3 := Lib.hid k3
  simp [Leaves, settle, offP, results, Tryd.results97, go_sem, c3, hz3]
  exact ⟨rfl, k3.out⟩
theorem walks_ok {f : Nat} {cap : Array Value} (hf : ∀ args w, (callFunc f args).run Tryd.prog w = .ok (.enter f args) w) (W : Nat) (hW : W ≤ 256) (w : World) (b : Bool) (c : Cl)
    (HC : ∀ w' p, Ex w w' → w.heap.size ≤ p → Wk w' p W none → Calls Tryd.prog f (#[.pointer (some ⟨p, 0, none⟩)] ++ cap) w' (PostK p W w' (.bool b) c)) :
    Calls Tryd.prog 97 #[I W, .func (.func f) #[] cap] w fun e w' => ∃ pv, e = .returned (.tuple #[.bool b, .pointer pv]) ∧ Ex w w' ∧ ClV w' pv c := by
  have hmf : ∀ (fn : Fn) (first cap : Array Value) (w : World), (Instr.makeFunc fn first cap).run Tryd.prog w = .ok (.func fn first cap) w := fun _ _ _ _ => rfl
  have HWd : Hid (∀ w', Calls Tryd.prog 60 #[I W] w' (Post w' (.bool true))) := Lib.hid fun w' => by
    have := wide_any W w'
    rwa [show wideB W = true from decide_eq_true (by omega)] at this
  have HC2 := Lib.hid HC
  clear HC
  go_enter_defers Tryd.func97, Tryd.ntmps97
  go_wp2_with (go_at_call 60; (with_reducible refine (HWd.out _).mono ?_); rintro e w2 ⟨rfl, X, rfl⟩)
  refine (HC2.out _ _ (by (try show Ex _ _); with_reducible repeat (first | exact ex_refl _ | assumption | refine ex_drewL ?_ | refine ex_appR ?_ _ | refine ex_wx ?_ _ | refine ex_drew ?_ | refine ex_alloc ?_ _)) (by omega) (Wk.new' W (by simp [go_sem]))).mono ?_
  rintro e w2 ⟨rfl, F2, K2⟩
  dsimp only
  have hb0 : ((wx (w.alloc (.cells #[.bool false] 4)) X).alloc (.cells #[I W, .pointer none] 146)).heap[w.heap.size]? = some (.cells #[.bool false] 4 (0, 0)) := ex_block (w := w.alloc (.cells #[.bool false] 4)) (by (try show Ex _ _); with_reducible repeat (first | exact ex_refl _ | assumption | refine ex_drewL ?_ | refine ex_appR ?_ _ | refine ex_wx ?_ _ | refine ex_drew ?_ | refine ex_alloc ?_ _)) (heap_alloc_new w _)
  have hb2 := row_frm hb0 F2 (by omega)
  obtain ⟨c0, f0⟩ := block_cellF (o := 0) (v := .bool false) hb2 rfl
  have k2 : Ex w w2 := F2.exA (by (try show Ex _ _); with_reducible repeat (first | exact ex_refl _ | assumption | refine ex_drewL ?_ | refine ex_appR ?_ _ | refine ex_wx ?_ _ | refine ex_drew ?_ | refine ex_alloc ?_ _)) (by omega)
  obtain ⟨pv, hpb, hpc⟩ := K2.out
  obtain ⟨cp, fp⟩ := block_cellF (o := 1) (v := .pointer pv) hpb rfl
  replace F2 := Lib.hid F2
  replace K2 := Lib.hid K2
  replace hpc := Lib.hid hpc
  replace hpb := Lib.hid hpb
  replace hb0 := Lib.hid hb0
  replace hb2 := Lib.hid hb2
  have hz3 : w.heap.size < w2.heap.size := cell_lt c0
  have hzp : w.heap.size + 1 + X.blocks.length < w2.heap.size := cell_lt cp
  go_wp2
  have mixed : Tryd.prog.follows .mixedOrders = true := by kernel_rfl
  have hne : ¬ w.heap.size + 1 + X.blocks.length = w.heap.size := by omega
  have c0s : (w2.setCell ⟨w.heap.size, 0, none⟩ (.bool b)).cell? ⟨w.heap.size, 0, none⟩ = some (.bool b) := (block_cellF (o := 0) (v := .bool b) (setCellF_block (o := 0) (.bool b) hb2.out) rfl).1
  have hF : Frm (fun k => k = w.heap.size) w2 (((w2.setCell ⟨w.heap.size, 0, none⟩ (.bool b)).setCell ⟨w.heap.size, 0, none⟩ (.bool b)).drew) := ((((Frm.refl (fun k => k = w.heap.size) w2).set (b := w.heap.size) rfl 0 (.bool b))).set (b := w.heap.size) rfl 0 (.bool b)).drewR
  have hT : Hid (ClV (((w2.setCell ⟨w.heap.size, 0, none⟩ (.bool b)).setCell ⟨w.heap.size, 0, none⟩ (.bool b)).drew) pv c) := Lib.hid (hpc.out.frm (nok_type hb2.out (by decide) (by decide) (by decide)) hF).clv
  have hT2 : Hid ((((w2.setCell ⟨w.heap.size, 0, none⟩ (.bool b)).setCell ⟨w.heap.size, 0, none⟩ (.bool b)).drew).heap[w.heap.size]? = some (.cells #[.bool b] 4 (0, 0))) := Lib.hid (setCellF_block (o := 0) (.bool b) (setCellF_block (o := 0) (.bool b) hb2.out))
  clear hF
  refine wp_midC (fun a' w' => a'.defers = [{ target := .fn (.func 131) #[.pointer (some ⟨w.heap.size, 0, none⟩)], args := #[] }] ∧ a'.tmps.getD 4 undef = .pointer (some ⟨w.heap.size, 0, none⟩) ∧ a'.tmps.getD 5 undef = .pointer pv ∧ w'.heap[w.heap.size]? = some (.cells #[.bool b] 4 (0, 0)) ∧ Ex w w' ∧ ClV w' pv c) ?_ ?_
  · go_big_region_o
    exact ⟨rfl, rfl, rfl, hT2.out, ex_drew (ex_set (ex_set k2 (Nat.le_refl _) _) (Nat.le_refl _) _), hT.out⟩
  · rintro a' w' ⟨h1, h2, h3, h4, h5, h6⟩
    go_wp2
    show Leaves _ _ a'.tmps _ a'.defers _ _
    rw [h1]
    have h2' : a'.tmps[4]?.getD undef = .pointer (some ⟨w.heap.size, 0, none⟩) := by simpa using h2
    have h3' : a'.tmps[5]?.getD undef = .pointer pv := by simpa using h3
    obtain ⟨c4, _⟩ := block_cellF (o := 0) (v := .bool b) h4 rfl
    refine leaves_cons (f := 131) (args := #[.pointer (some ⟨w.heap.size, 0, none⟩)]) (by simp) (by simp [go_sem]) ?_
    refine (catch_idle w.heap.size w').mono ?_
    rintro e u' w3 ⟨rfl, rfl, rfl⟩
    replace h6 := Lib.hid h6
    simp [Leaves, settle, results, Tryd.results97, go_sem, h2', h3', c4]
    exact ⟨h5, h6.out⟩
end Go.Proofs.YtcdocklbpfdmeaaDoor
