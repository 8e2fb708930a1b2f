import Derived.Test.YtdohohafdplkiaaMDkM

/- The queue of a disk, gone over from its end. -/
set_option linter.unusedSimpArgs false
set_option linter.unusedVariables false
set_option maxRecDepth 20000
namespace Go.Proofs.Ytdohohafdplkiaa
open Go.RowKit
attribute [local go_sem] Oper.semAt_some
theorem calls_of_marks {P : Program} {f : FuncId} {fn : Func} {c : Code} {args : Array Value} {w : World} {R : Ending → World → Prop} (hf : P.funcs[f]? = some fn) (hb : fn.body = some c)
    (h : c.wp P (bodyPostM Fence.wide 3 P fn R) { tmps := args ++ Array.replicate (fn.ntmps - args.size) undef, defers := [] } w) : Calls P f args w R :=
  (callsIn_wide (n := 3)).1 (callsIn_of_wp_marks hf hb trivial (wpIn_wide.2 h) rfl)
/-- From the end: the place, the write. -/
def lastF (l : List Pt) (j : Nat) : Nat × Pt := (l.length - 1 - j, l.getD (l.length - 1 - j) (0, zeroB))
def uptoL {α : Type} (f : Nat → α) (k : Nat) : List α := (List.range k).map f
theorem uptoL_succ {α : Type} (f : Nat → α) (k : Nat) : uptoL f (k + 1) = uptoL f k ++ [f k] := by simp [uptoL, List.range_succ]
theorem uptoL_len {α : Type} (f : Nat → α) (k : Nat) : (uptoL f k).length = k := by simp [uptoL]
def encQ (x : Nat × Pt) : Array Value := #[I (x.1 : Nat), .agg (KQ x.2).toArray]
/-- What a round keeps: what lay below a height, and one box. -/
def KpQ (Z bd : Nat) (W W' : World) : Prop := Frm (fun b => Z ≤ b ∧ b ≠ bd) W W'
theorem kpQ_b {Z bd : Nat} {w : World} (hz : Z ≤ w.heap.size) (hb : bd < w.heap.size) (W : World) (l : Nat) (o o' : Obj) (hl : w.heap.size ≤ l) (h : W.heap[l]? = some o) (_ : o.isCells = false) (_ : o.isWalk = false) : KpQ Z bd W (W.putObj l o') := by
  have hg := grownBy_putObj' W l o'
  exact ⟨hg.os, hg.tape, hg.output, hg.size, fun b hb2 hn => hg.block b hb2 fun e => hn (by cases e; omega)⟩
set_option maxRecDepth 100000 in
set_option maxHeartbeats 2000000 in
theorem last1_in (n : Nat) (hn : 1 ≤ n) (l bd Z : Nat) (L : Loc) (d : Dk) (qv : Value) (J Jx : List (Nat × Pt) → World → Prop)
    (hY : ∀ pre x W, J pre W → pre.length < d.qu.length → YieldAt Fence.wide (n - 1) Try.prog l (encQ x) W fun e W' =>
      (e = .returned (.bool true) ∧ J (pre ++ [x]) W' ∧ KpQ Z bd W W') ∨ (e = .returned (.bool false) ∧ Jx (pre ++ [x]) W'))
    (W : World) (hM : DkM W L d qv) (hZ : ∀ b, L.own b → b < Z) (hbd : W.heap[bd]? = some (.cells #[PT L.p] 24 (0, 0))) (h0 : J [] W) :
    CallsIn Fence.wide n Try.prog 57 #[.func (.yield l) #[] #[], PT bd] W fun e W' => (∃ v, e = .returned v) ∧
      ((∃ ys, ys = uptoL (lastF d.qu) d.qu.length ∧ J ys W') ∨ (∃ pre, (∃ k, k ≤ d.qu.length ∧ pre = uptoL (lastF d.qu) k) ∧ Jx pre W')) := by
  have hbz := (Array.getElem?_eq_some_iff.1 hbd).1
  have hq1 := hM.ok.qn
  obtain ⟨qa, qc, hqv, k1, k2, k3⟩ : ∃ a c, qv = .slice a d.qu.length c ∧ d.qu.length ≤ c ∧ c ≤ maxLen ∧ (a = none → c = 0) := by
    rcases hM.bq.2 with ⟨rfl, h0⟩ | ⟨g, cap, cur, rfl, h1, h2, h3, h4, h5, h6⟩
    · exact ⟨none, 0, by rw [h0], by omega, by decide, fun _ => rfl⟩
    · exact ⟨_, cap, rfl, h3, h4, fun h => by cases h⟩
  have HMW : Hid (∀ wr, KpQ Z bd W wr → DkM wr L d qv ∧ wr.heap[bd]? = some (.cells #[PT L.p] 24 (0, 0))) := Lib.hid fun wr k =>
    ⟨hM.keep fun b hb => k.same b (hM.lt hb) fun h => by have := hZ b hb; omega, (k.same bd hbz fun h => h.2 rfl).trans hbd⟩
  subst hqv
  clear hM hbd
  refine callsIn_of_wp Try.func57 rfl trivial ?_ rfl
  simp only [Try.ntmps57, List.size_toArray, List.length_cons, List.length_nil, Nat.reduceAdd, Nat.reduceSub, Array.replicate_succ, Array.replicate_zero, List.push_toArray, List.append_toArray, List.nil_append, List.cons_append]
  have hW := HMW.out W (Frm.refl _ _)
  have hb0 := (block_cell (o := 0) (v := PT L.p) hW.2 rfl).1
  obtain ⟨⟨c0, c1, c2, c3, c4, c5⟩, hf, hz⟩ := hW.1.cells
  clear hW hf c0 c2 c3 c4 c5
  gi_wp2
  clear hb0 c1 hz
  gi_loopw [3] (fun i wr => ∃ j : Nat, j ≤ d.qu.length ∧ i = .int .i64 ((d.qu.length : Int) - 1 - j) ∧ J (uptoL (lastF d.qu) j) wr ∧ Hid (KpQ Z bd W wr)) (fun i _ => (intOf i + 1).toNat)
  case atStart => exact ⟨0, Nat.zero_le _, by simp, h0, Lib.hid (Frm.refl _ _)⟩
  case round =>
    obtain ⟨j, hj, rfl, hJs, hk⟩ := hrel
    have hW := HMW.out wr hk.out
    have hb0 := (block_cell (o := 0) (v := PT L.p) hW.2 rfl).1
    obtain ⟨⟨c0, c1, c2, c3, c4, c5⟩, hf, hz⟩ := hW.1.cells
    have hbq := hW.1.bq
    clear hW hf c0 c2 c3 c4 c5
    by_cases hlt : j < d.qu.length
    · have hyp := hY (uptoL (lastF d.qu) j) (lastF d.qu j) wr hJs (by rw [uptoL_len]; exact hlt)
      obtain ⟨x, hx⟩ : ∃ x, d.qu[d.qu.length - 1 - j]? = some x := ⟨_, List.getElem?_eq_getElem (by omega)⟩
      have hlx : lastF d.qu j = (d.qu.length - 1 - j, x) := by unfold lastF; rw [List.getD_eq_getElem?_getD, hx]; rfl
      rw [hlx] at hyp
      obtain ⟨g, cap, cur, hv, _⟩ := own_block hbq (by omega) (by omega)
      obtain ⟨rfl, rfl⟩ : qa = some ⟨g, 0, none⟩ ∧ qc = cap := by simpa using hv
      have hcx := (own_at KQ_len hbq hx).1
      have e1 : ((d.qu.length : Int) - 1 - j) = ((d.qu.length - 1 - j : Nat) : Int) := by omega
      generalize hp : d.qu.length - 1 - j = p at *
      obtain ⟨fn, tmps, assign, body, hy, hR⟩ := hyp
      dsimp only [encQ] at hy
      have hp2 : p < d.qu.length := by omega
      have hp3 : (p : Int) < d.qu.length := by omega
      rw [e1]
      clear hv hbq
      gi_wp2
      refine hR.mono ?_
      rintro e W3 (⟨rfl, hJ3, hk3⟩ | ⟨rfl, hJx3⟩)
      · gi_wp2
        go_roundw
        case rel => exact ⟨j + 1, by omega, (by simp; try omega), by rw [uptoL_succ, hlx]; exact hJ3, Lib.hid (hk.out.trans hk3)⟩
        case measure => (simp [intOf]; try omega)
      · gi_wp2
        go_end0
        exact ⟨⟨_, rfl⟩, .inr ⟨_, ⟨j + 1, by omega, by rw [uptoL_succ, hlx]⟩, hJx3⟩⟩
    · obtain rfl : j = d.qu.length := by omega
      have e1 : ((d.qu.length : Int) - 1 - d.qu.length) = -1 := by omega
      rw [e1]
      gi_wp2
      refine ⟨fun _ h => (by cases h), ?_⟩
      gi_wp2
      go_end0
      exact ⟨⟨_, rfl⟩, .inl ⟨_, rfl, hJs⟩⟩
/-- d.last(): the receiver is boxed; the closure captures the box. -/
theorem last_any (p : Nat) (w : World) : Calls Try.prog 41 #[PT p] w fun e w' => e = .returned (.func (.func 57) #[] #[PT w.heap.size]) ∧ w' = w.alloc (.cells #[PT p] 24) := by
  go_enter Try.func41, Try.ntmps41
  go_wp2
  go_ret
  exact ⟨rfl, rfl⟩
theorem last_stops (n : Nat) (hn : 1 ≤ n) (bd Z : Nat) (L : Loc) (d : Dk) (qv : Value) (w : World) (hM : DkM w L d qv) (hZ : ∀ b, L.own b → b < Z) (hbd : w.heap[bd]? = some (.cells #[PT L.p] 24 (0, 0))) :
    SeqStopsK Fence.wide n Try.prog 57 #[PT bd] encQ (KpQ Z bd) (fun ys => ys = uptoL (lastF d.qu) d.qu.length) (fun pre => ∃ k, k ≤ d.qu.length ∧ pre = uptoL (lastF d.qu) k) d.qu.length w := fun l J Jx W hW _ _ hY h0 => by
  have hk : Ex w W := ex_of_below hW
  exact last1_in n hn l bd Z L d qv J Jx hY W (hM.ex hk) hZ (ex_block hk hbd) h0
end Go.Proofs.Ytdohohafdplkiaa
