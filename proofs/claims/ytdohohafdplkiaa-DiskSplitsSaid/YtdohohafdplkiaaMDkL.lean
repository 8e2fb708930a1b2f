import Derived.Test.YtdohohafdplkiaaMDkA
import Derived.Test.YtdohohafdplkiaaMDkG
import Derived.Test.YtdohohafdplkiaaMDkE
import Derived.Test.YtdohohafdplkiaaMDkZ

/- Disks: the plain law of views, of what a crash leaves. -/
set_option linter.unusedSimpArgs false
set_option linter.unusedVariables false
namespace Go.Proofs.Ytdohohafdplkiaa
theorem kept_lt {keep : List Bool} {k : Nat} (h : keptL keep k = true) : k < keep.length := by
  unfold keptL at h
  rcases Nat.lt_or_ge k keep.length with h1 | h1
  · exact h1
  · rw [List.getD_eq_getElem?_getD, List.getElem?_eq_none h1] at h; cases h
theorem kept_iff {keep : List Bool} {k : Nat} : keptL keep k = true ↔ keep[k]? = some true := by
  unfold keptL
  rw [List.getD_eq_getElem?_getD]
  cases h : keep[k]? with
  | none => simp
  | some b => simp
/-- What lives on because of one further behind is as if it had been kept. -/
structure Sat (keep keep' : List Bool) : Prop where
  len : keep'.length = keep.length
  get : ∀ k, k < keep.length → (keptL keep' k = true ↔ (keptL keep k = true ∨ ∃ p, keptL keep p = true ∧ k + 4 ≤ p))
theorem sat_lives {keep keep' : List Bool} (h : Sat keep keep') {n k : Nat} (hk : k < n) (hl : keep.length ≤ n) : livesK keep n k = livesK keep' n k := by
  rw [Bool.eq_iff_iff, lives_iff keep n k hk, lives_iff keep' n k hk]
  constructor
  · rintro ⟨p, h1, h2, h3⟩
    exact ⟨p, h1, (h.get p (kept_lt h2)).2 (Or.inl h2), h3⟩
  · rintro ⟨p, h1, h2, h3⟩
    have hp := kept_lt h2
    rw [h.len] at hp
    rcases (h.get p hp).1 h2 with h4 | ⟨q, h4, h5⟩
    · exact ⟨p, h1, h4, h3⟩
    · have hq := kept_lt h4
      exact ⟨q, by omega, h4, Or.inr (by omega)⟩
theorem sat_own {keep keep' : List Bool} (h : Sat keep keep') {n k : Nat} (hk : k < n) (hl : keep.length ≤ n) : livesK keep' n k = keptL keep' k := by
  rw [Bool.eq_iff_iff, lives_iff keep' n k hk]
  constructor
  · rintro ⟨p, h1, h2, rfl | h3⟩
    · exact h2
    · have hp := kept_lt h2
      rw [h.len] at hp
      rw [h.get k (by omega)]
      rcases (h.get p hp).1 h2 with h4 | ⟨q, h4, h5⟩
      · exact Or.inr ⟨p, h4, h3⟩
      · exact Or.inr ⟨q, h4, by omega⟩
  · intro h1; exact ⟨k, hk, h1, Or.inl rfl⟩
/-- All sectors behind a crash. -/
def viewD (d : Dk) (keep : List Bool) : List Bk := (crashD d keep).has
theorem view_len (d : Dk) (keep : List Bool) : (viewD d keep).length = d.has.length := doQ_len _ _ _ _
theorem view_sat {d : Dk} {keep keep' : List Bool} (h : Sat keep keep') (hl : keep.length ≤ d.qu.length) : viewD d keep = viewD d keep' :=
  doQ_congr _ _ _ fun j hj => by rw [Nat.zero_add]; exact sat_lives h hj hl
theorem view_nil (d : Dk) : viewD d [] = d.has := by
  apply List.ext_getElem?
  intro i
  rcases Nat.lt_or_ge i d.has.length with hi | hi
  · show (doQ d.has 0 d.qu _)[i]? = _
    rw [doQ_get i _ d.qu d.has 0 _ (List.getElem?_eq_getElem hi), pick_none]
    · exact (List.getElem?_eq_getElem hi).symm
    · intro j p hp hl
      rw [Nat.zero_add] at hl
      obtain ⟨q, _, h2, _⟩ := (lives_iff [] _ j (List.getElem?_eq_some_iff.1 hp).1).1 hl
      simp [keptL] at h2
  · rw [List.getElem?_eq_none (by rw [view_len]; exact hi), List.getElem?_eq_none hi]
theorem view_at {d : Dk} (hd : DkOk d) (keep : List Bool) {i : Nat} (hi : i < d.has.length) (h : ∀ (j : Nat) (p : Pt), d.qu[j]? = some p → livesK keep d.qu.length j = true → p.1 ≠ (i : Int)) : (viewD d keep)[i]? = d.has[i]? := by
  show (doQ d.has 0 d.qu _)[i]? = _
  rw [doQ_get i _ d.qu d.has 0 _ (List.getElem?_eq_getElem hi), pick_none]
  · exact (List.getElem?_eq_getElem hi).symm
  · intro j p hp hl
    rw [Nat.zero_add] at hl
    have h1 := h j p hp hl
    have h2 := hd.qr p (List.mem_of_getElem? hp)
    omega
/-- All kept: what is read ahead of the crash. -/
theorem view_all {d : Dk} (hd : DkOk d) {keep : List Bool} (hk : ∀ j, j < d.qu.length → keptL keep j = true) {i : Nat} (hi : i < d.has.length) : (viewD d keep)[i]? = some (readsD d i) := by
  show (doQ d.has 0 d.qu _)[i]? = _
  rw [doQ_congr (g := fun _ => true) _ _ _ fun j hj => by rw [Nat.zero_add]; exact (lives_iff _ _ _ hj).2 ⟨j, hj, hk j hj, Or.inl rfl⟩]
  rw [doQ_get i _ d.qu d.has 0 _ (List.getElem?_eq_getElem hi), pick_all _ _ _ _ fun p hp => (hd.qr p hp).1]
  unfold readsD
  rw [Int.toNat_natCast, List.getD_eq_getElem?_getD, List.getElem?_eq_getElem hi]
  rfl
theorem sync_has {d : Dk} (h : (syncD d).2 = 0) {keep : List Bool} (hk : ∀ j, j < d.qu.length → keptL keep j = true) : (syncD d).1.has = viewD d keep ∧ (syncD d).1.qu = [] := by
  unfold syncD at h ⊢
  split
  · refine ⟨?_, rfl⟩
    show doQ d.has 0 d.qu _ = doQ d.has 0 d.qu _
    exact (doQ_congr _ _ _ fun j hj => by rw [Nat.zero_add]; exact (lives_iff _ _ _ hj).2 ⟨j, hj, hk j hj, Or.inl rfl⟩).symm
  · rename_i h0
    rw [if_neg h0] at h
    exact absurd h h0
theorem view_empty {d : Dk} (h : d.qu = []) (keep : List Bool) : viewD d keep = d.has := by
  show doQ d.has 0 d.qu _ = _
  rw [h]; rfl
/-- A disk without a fault, read. -/
structure Calm (d : Dk) : Prop where
  dark : d.dark = false
  dm : d.dm = -1
  ar : d.ar = -1
theorem crash_calm (d : Dk) (keep : List Bool) : Calm (crashD d keep) := ⟨rfl, rfl, rfl⟩
theorem calm_req {d : Dk} (h : Calm d) {i : Int} (hi : 0 ≤ i ∧ i < d.has.length) (ch : Bool) : reqD d i ch = (d, 0) := by
  obtain ⟨h1, h2, h3⟩ := h
  unfold reqD
  rw [if_neg (by simp [h1]), if_neg (by simpa using hi), if_neg (by simp [h3]), if_neg (by simp [h2])]
  cases d
  simp only at h1 h2 h3
  subst h1 h2 h3
  simp [down]
theorem calm_read {d : Dk} (h : Calm d) {i : Int} (hi : 0 ≤ i ∧ i < d.has.length) : readD d i = (incD d, readsD d i, 0) := by
  unfold readD
  rw [calm_req h hi]
  simp
theorem inc_calm {d : Dk} (h : Calm d) : Calm (incD d) := ⟨h.dark, h.dm, h.ar⟩
theorem reads_empty {d : Dk} (h : d.qu = []) (i : Int) : readsD d i = d.has.getD i.toNat zeroB := by
  unfold readsD lastD; rw [h]; rfl
end Go.Proofs.Ytdohohafdplkiaa

/- Disks of a call's own; what the laws' wakes does. -/
set_option linter.unusedSimpArgs false
set_option linter.unusedVariables false
set_option maxRecDepth 20000
namespace Go.Proofs.Ytdohohafdplkiaa
open Go.RowKit
/-- A disk of the call's own, behind a pointer. -/
structure DkO (w W : World) (p : Nat) (d : Dk) : Prop where
  ex : Ex w W
  out : ∃ L, L.p = p ∧ DkAt W L d ∧ ∀ b, L.own b → w.heap.size ≤ b
theorem DkO.turn {w W W' : World} {L L' : Loc} {p : Nat} {d' : Dk} (hw : Ex w W) (ho : ∀ b, L.own b → w.heap.size ≤ b) (hp : L.p = p) (hW : DkAt W' L' d') (hD : Dv L W L' W') : DkO w W' p d' :=
  ⟨ex_of_below ((ex_below hw).trans (hD.below (ex_size hw) ho)), L', hD.pp.trans hp, hW, fun b hb => (hD.own hb).elim (ho b) fun h => Nat.le_trans (ex_size hw) h⟩
theorem DkO.grow {w W W' : World} {p : Nat} {d : Dk} (h : DkO w W p d) (k : Ex W W') : DkO w W' p d := by
  obtain ⟨L, h1, h2, h3⟩ := h.out
  exact ⟨ex_trans h.ex k, L, h1, h2.ex k, h3⟩
/-- What turned it, and kept what was made since a moment. -/
def PostK (w W0 W : World) (p : Nat) (d' : Dk) (v : Value) (e : Ending) (w' : World) : Prop := e = .returned v ∧ DkO w w' p d' ∧ ∀ b, W0.heap.size ≤ b → b < W.heap.size → w'.heap[b]? = W.heap[b]?
theorem DkO.post {w W0 W w' : World} {L L' : Loc} {p : Nat} {d' : Dk} {v : Value} (hw : Ex w W) (ho : ∀ b, L.own b → w.heap.size ≤ b) (hlt : ∀ b, L.own b → b < W0.heap.size) (hp : L.p = p) (hW : DkAt w' L' d') (hD : Dv L W L' w') : PostK w W0 W p d' v (.returned v) w' :=
  ⟨rfl, DkO.turn hw ho hp hW hD, fun b h1 h2 => hD.same b h2 fun e => by have := hlt b e; omega⟩
section
variable {w W0 W : World} {p : Nat} {d : Dk}
theorem write_o (h : DkO w W0 p d) (k : Ex W0 W) (i : Int) (b : Bk) (h1 : -9223372036854775808 ≤ i) (h2 : i < 9223372036854775808) (hops : d.ops < 1000000000) (hq : d.qu.length < 1000000) : Calls Try.prog 25 #[PT p, I i, .agg (rowB 64 (bkF b))] W (PostK w W0 W p (writeD d i b).1 (I (writeD d i b).2)) := by
  obtain ⟨L, rfl, hL, ho⟩ := h.out
  refine (write_any (hL.ex k) i b h1 h2 hops hq).mono fun e W' hh => ?_
  obtain ⟨L', rfl, k1, k2⟩ := hh
  exact DkO.post (ex_trans h.ex k) ho (fun b hb => hL.lt hb) rfl k1 k2
theorem sync_o (h : DkO w W0 p d) (k : Ex W0 W) (hops : d.ops < 1000000000) : Calls Try.prog 28 #[PT p] W (PostK w W0 W p (syncD d).1 (I (syncD d).2)) := by
  obtain ⟨L, rfl, hL, ho⟩ := h.out
  refine (sync_any (hL.ex k) hops).mono fun e W' hh => ?_
  obtain ⟨L', rfl, k1, k2⟩ := hh
  exact DkO.post (ex_trans h.ex k) ho (fun b hb => hL.lt hb) rfl k1 k2
theorem arm_o (h : DkO w W0 p d) (k : Ex W0 W) (n : Int) (hn : n < 9223372036854775808) : Calls Try.prog 24 #[PT p, I n] W (PostK w W0 W p (armD d n).1 (I (armD d n).2)) := by
  obtain ⟨L, rfl, hL, ho⟩ := h.out
  refine (arm_any (hL.ex k) n hn).mono fun e W' hh => ?_
  obtain ⟨L', rfl, k1, k2⟩ := hh
  exact DkO.post (ex_trans h.ex k) ho (fun b hb => hL.lt hb) rfl k1 k2
theorem fail_o (h : DkO w W0 p d) (k : Ex W0 W) (n : Int) (hn : n < 9223372036854775808) : Calls Try.prog 20 #[PT p, I n] W (PostK w W0 W p (failD d n).1 (I (failD d n).2)) := by
  obtain ⟨L, rfl, hL, ho⟩ := h.out
  refine (fail_any (hL.ex k) n hn).mono fun e W' hh => ?_
  obtain ⟨L', rfl, k1, k2⟩ := hh
  exact DkO.post (ex_trans h.ex k) ho (fun b hb => hL.lt hb) rfl k1 k2
theorem read_o (h : DkO w W0 p d) (k : Ex W0 W) (i : Int) (h1 : -9223372036854775808 ≤ i) (h2 : i < 9223372036854775808) (hops : d.ops < 1000000000) : Calls Try.prog 21 #[PT p, I i] W (PostK w W0 W p (readD d i).1 (.tuple #[.agg (rowB 64 (bkF (readD d i).2.1)), I (readD d i).2.2])) := by
  obtain ⟨L, rfl, hL, ho⟩ := h.out
  refine (read_any (hL.ex k) i h1 h2 hops).mono fun e W' hh => ?_
  obtain ⟨L', rfl, k1, k2⟩ := hh
  exact DkO.post (ex_trans h.ex k) ho (fun b hb => hL.lt hb) rfl k1 k2
theorem crash_o (h : DkO w W0 p d) (k : Ex W0 W) (kv : Value) (keep : List Bool) (hs : SlV1 KBo 1 W kv keep) (hg : ∀ g, kv.ownBlock = some g → W0.heap.size ≤ g ∧ g < W.heap.size) : Calls Try.prog 18 #[PT p, kv] W (PostK w W0 W p (crashD d keep) (I 0)) := by
  obtain ⟨L, rfl, hL, ho⟩ := h.out
  refine (crash_any (hL.ex k) kv keep hs fun g hg' => ⟨fun e => by have := hL.lt e; have := (hg g hg').1; omega, (hg g hg').2⟩).mono fun e W' hh => ?_
  obtain ⟨L', rfl, k1, k2⟩ := hh
  exact DkO.post (ex_trans h.ex k) ho (fun b hb => hL.lt hb) rfl k1 k2
theorem pend_o (h : DkO w W p d) : Calls Try.prog 23 #[PT p] W (PostZ W (d.qu.map (·.1))) := by
  obtain ⟨L, rfl, hL, ho⟩ := h.out
  exact pend_any hL
theorem new_o (n : Nat) (h1 : 1 ≤ n) (h2 : n ≤ 2048) (hw : Ex w W) : Calls Try.prog 10 #[I n] W fun e w' => ∃ p, e = .returned (.tuple #[PT p, I 0]) ∧ DkO w w' p (newD n) := by
  refine (new_any n h1 h2 W).mono fun e w' hh => ?_
  obtain ⟨L, rfl, k1, k2, k3⟩ := hh
  exact ⟨L.p, rfl, ex_trans hw k2, L, rfl, k1, fun b hb => Nat.le_trans (ex_size hw) (k3 b hb)⟩
end
def fiveB : Bk := ofBk fun i => if i = 0 then 5 else 0
def wakeD (k : Nat) : Dk := ⟨List.replicate 10 zeroB, (List.range k).map fun (i : Nat) => ((i : Int), fiveB), -1, -1, false, k⟩
theorem wake_write {k : Nat} (hk : k < 10) : writeD (wakeD k) k fiveB = (wakeD (k + 1), 0) := by
  have hr : reqD (wakeD k) k true = (wakeD k, 0) := calm_req ⟨rfl, rfl, rfl⟩ ⟨by omega, by simp [wakeD]; omega⟩ true
  unfold writeD
  rw [hr, if_pos rfl]
  simp only [wakeD, incD, List.range_succ, List.map_append, List.map_cons, List.map_nil]
def keep4 : List Bool := [false, false, false, false, true]
theorem wake_read0 : readD (crashD (wakeD 6) keep4) 0 = (incD (crashD (wakeD 6) keep4), fiveB, 0) := by
  rw [calm_read (crash_calm _ _) ⟨by omega, by simp [crashD, doQ_len, wakeD]⟩]; rfl
theorem wake_read1 : readD (incD (crashD (wakeD 6) keep4)) 1 = (incD (incD (crashD (wakeD 6) keep4)), zeroB, 0) := by
  rw [calm_read (inc_calm (crash_calm _ _)) ⟨by omega, by simp [crashD, incD, doQ_len, wakeD]⟩]; rfl
theorem wake_sync : (syncD (incD (incD (crashD (wakeD 6) keep4)))).2 = 0 := by
  unfold syncD
  rw [calm_req (inc_calm (inc_calm (crash_calm _ _))) ⟨by omega, by simp [crashD, incD, doQ_len, wakeD]⟩, if_pos rfl]
def build1Run (P : Program) (t : TypeId) (v : Value) (w : World) : Result Next := ((Instr.build t #[(0, v)]).run P w).andThen fun x w' => .ok (.value x) w'
@[go_sem ↓ high] theorem run_build1_pre {P : Program} (ρ : Operand → Value) (d : Option Tmp) (t : TypeId) (x : Operand) (ty : TypeId) (pos : String) (aft : Array Edge) (g : Option (Nat × Bool)) (w : World) :
    Sem.run P (execOp ρ ⟨d, .build t #[(0, x)], ty, pos, aft, g⟩) w = build1Run P t (ρ x) w := by
  simp only [execOp, Sem.run_bind, Sem.run_pure, build1Run, List.map_toArray, List.map_cons, List.map_nil]
@[go_sem low] theorem build1Run_other {P : Program} (t : TypeId) (v : Value) (w : World) : build1Run P t v w = ((Instr.build t #[(0, v)]).run P w).andThen fun x w' => .ok (.value x) w' := rfl
theorem built_five : Try.prog.built 39 [(0, .int .u8 5)] = some (rowB 64 (bkF fiveB)) := by kernel_rfl
@[go_sem] theorem build1_five (w : World) : build1Run Try.prog 39 (.int .u8 5) w = .ok (.value (.agg (rowB 64 (bkF fiveB)))) w := by
  unfold build1Run
  rw [run_build w _ _ _ built_five]; rfl
set_option maxHeartbeats 1000000 in
theorem wakes_any (w : World) : Calls Try.prog 9 #[] w (Post w (.bool true)) := by
  have HN : Hid (Calls Try.prog 10 #[.int .i64 10] w fun e w' => ∃ p, e = .returned (.tuple #[PT p, I 0]) ∧ DkO w w' p (newD 10)) := Lib.hid (new_o (w := w) (W := w) 10 (by omega) (by omega) (ex_refl _))
  go_enter Try.func9, Try.ntmps9
  go_wp2_with (go_at_call 10; (with_reducible refine HN.out.mono ?_); rintro e w1 ⟨p, rfl, h1⟩; replace h1 := Lib.hid h1)
  go_loopw [17] (fun i W => ∃ k : Nat, k ≤ 6 ∧ i = I k ∧ Hid (DkO w W p (wakeD k))) (fun i _ => 6 - (intOf i).toNat)
  case atStart => exact ⟨0, by omega, rfl, h1⟩
  case round =>
    obtain ⟨k, hk, rfl, hW⟩ := hrel
    by_cases hlt : k < 6
    · have hlt2 : (k : Int) < 6 := by omega
      have HW := write_o hW.out (ex_refl _) k fiveB (by omega) (by omega) (by simp [wakeD]; omega) (by simp [wakeD]; omega)
      rw [wake_write (by omega)] at HW
      replace HW := Lib.hid HW
      go_wp2_with (go_at_call 25; (with_reducible refine HW.out.mono ?_); rintro e w2 ⟨rfl, h2, _⟩; replace h2 := Lib.hid h2)
      exact ⟨⟨k + 1, by omega, by go_num, h2⟩, by simp [intOf]; omega⟩
    · obtain rfl : k = 6 := by omega
      have HP := Lib.hid (pend_o hW.out)
      clear hlt
      have hW6 := hW
      obtain ⟨kc, hkc⟩ : ∃ kc : Array Value, kc = #[.bool false, .bool false, .bool false, .bool false, .bool true] := ⟨_, rfl⟩
      have HC : Hid (∀ w3, Ex wr w3 → Calls Try.prog 18 #[PT p, .slice (some ⟨w3.heap.size, 0, none⟩) 5 5] (w3.alloc (.cells #[.bool false, .bool false, .bool false, .bool false, .bool true] 4)) (PostK w w3 (w3.alloc (.cells #[.bool false, .bool false, .bool false, .bool false, .bool true] 4)) p (crashD (wakeD 6) keep4) (I 0))) := Lib.hid fun w3 k => by
        refine crash_o (hW6.out.grow k) (ex_alloc (ex_refl _) _) _ keep4 ⟨_, 5, rfl, by decide, by decide, (fun e => by cases e), ⟨Or.inr ⟨_, 0, rfl, by simp [go_sem], fun i b hb => ?_⟩⟩⟩ (fun g hg => ?_)
        · have hi := (List.getElem?_eq_some_iff.1 hb).1
          have hi : i < 5 := hi
          have hcell := cell_of_row (w3.alloc (.cells #[.bool false, .bool false, .bool false, .bool false, .bool true] 4)) w3.heap.size i _ _ _ (heap_alloc_new w3 _)
          refine cellsN_some.2 ⟨rfl, fun j hj => ?_⟩
          obtain rfl : j = 0 := by omega
          rw [Nat.zero_add, Nat.mul_one, Nat.add_zero, hcell]
          rcases (show i = 0 ∨ i = 1 ∨ i = 2 ∨ i = 3 ∨ i = 4 by omega) with rfl | rfl | rfl | rfl | rfl <;> (obtain rfl := Option.some.inj hb; rfl)
        · obtain rfl : w3.heap.size = g := Option.some.inj hg
          exact ⟨Nat.le_refl _, by simp [go_sem]⟩
      clear hkc
      have HR0 : Hid (∀ W, DkO w W p (crashD (wakeD 6) keep4) → Calls Try.prog 21 #[PT p, .int .i64 0] W (PostK w W W p (incD (crashD (wakeD 6) keep4)) (.tuple #[.agg (rowB 64 (bkF fiveB)), I 0]))) := Lib.hid fun W h => by
        have := read_o h (ex_refl _) 0 (by omega) (by omega) (by show 6 < _; omega)
        rwa [wake_read0] at this
      have HR1 : Hid (∀ W0 W, DkO w W0 p (incD (crashD (wakeD 6) keep4)) → Ex W0 W → Calls Try.prog 21 #[PT p, .int .i64 1] W (PostK w W0 W p (incD (incD (crashD (wakeD 6) keep4))) (.tuple #[.agg (rowB 64 (bkF zeroB)), I 0]))) := Lib.hid fun W0 W h k => by
        have := read_o h k 1 (by omega) (by omega) (by show 7 < _; omega)
        rwa [wake_read1] at this
      have HS : Hid (∀ W0 W, DkO w W0 p (incD (incD (crashD (wakeD 6) keep4))) → Ex W0 W → Calls Try.prog 28 #[PT p] W (PostK w W0 W p (syncD (incD (incD (crashD (wakeD 6) keep4)))).1 (I 0))) := Lib.hid fun W0 W h k => by
        have := sync_o h k (by show 8 < _; omega)
        rwa [wake_sync] at this
      have b5 : bn (bkF fiveB 0) = 5 := by rw [show bkF fiveB 0 = 5 from bkF_of _ 0 (by omega)]; rfl
      have b0 : bn (bkF zeroB 0) = 0 := by rw [show bkF zeroB 0 = 0 from bkF_of _ 0 (by omega)]; rfl
      have hl6 : ((wakeD 6).qu.map (·.1)).length = 6 := by simp [wakeD]
      generalize hc6 : crashD (wakeD 6) keep4 = dc at *
      generalize (wakeD 6).qu.map (·.1) = l6 at *
      replace hl6 := Lib.hid hl6
      clear hc6 hW hW6
      have tok0 : True := trivial
      go_wp2_with (first | (go_at_call 23; (with_reducible refine HP.out.mono ?_); rintro e w3 ⟨v3, rfl, hO3, k3⟩; obtain ⟨a3, c3, rfl, _⟩ := own_form hO3; rw [hl6.out]; clear hO3) | (go_at_call 18; (with_reducible refine (HC.out _ k3).mono ?_); rintro e w4 ⟨rfl, h4, _⟩; replace h4 := Lib.hid h4) | (go_at_call 21; have _t := tok0; (with_reducible refine (HR0.out _ h4.out).mono ?_); clear tok0; rintro e w5 ⟨rfl, h5, _⟩; replace h5 := Lib.hid h5) | (go_at_call 21; (with_reducible refine (HR1.out _ _ h5.out (by (try show Ex _ _); repeat (first | (with_reducible exact ex_refl _) | (with_reducible assumption) | (with_reducible refine ex_drewL ?_) | (with_reducible refine ex_appR ?_ _) | (with_reducible refine ex_wx ?_ _) | (with_reducible refine ex_drew ?_) | (with_reducible refine ex_alloc ?_ _)))).mono ?_); rintro e w6 ⟨rfl, h6, g6⟩; have r6 := (g6 w5.heap.size (Nat.le_refl _) (by simp [go_sem])).trans (heap_alloc_new w5 _); clear g6; have z6 := (Array.getElem?_eq_some_iff.1 r6).1; replace r6 := cell_of_row _ _ 0 _ _ _ r6; rw [rowB_get, if_pos (by omega)] at r6; replace h6 := Lib.hid h6) | (go_at_call 28; (with_reducible refine (HS.out _ _ h6.out (by (try show Ex _ _); repeat (first | (with_reducible exact ex_refl _) | (with_reducible assumption) | (with_reducible refine ex_drewL ?_) | (with_reducible refine ex_appR ?_ _) | (with_reducible refine ex_wx ?_ _) | (with_reducible refine ex_drew ?_) | (with_reducible refine ex_alloc ?_ _)))).mono ?_); rintro e w7 ⟨rfl, h7, _⟩; replace h7 := Lib.hid h7))
      go_ret
      exact post_mk' rfl h7.out.ex
end Go.Proofs.Ytdohohafdplkiaa
