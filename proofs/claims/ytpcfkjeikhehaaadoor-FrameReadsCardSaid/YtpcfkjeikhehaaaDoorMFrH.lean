import Derived.Test.YtpcfkjeikhehaaaDoorMFrE
import Derived.Maps.AppendAt

/- Which messages may be: Check. -/
set_option linter.unusedSimpArgs false
set_option linter.unusedVariables false
set_option maxRecDepth 20000
namespace Go.Proofs.YtpcfkjeikhehaaaDoor
open Go.RowKit
def okN (n : Int) : Bool := decide (1 ≤ n) && decide (n ≤ 255)
set_option maxHeartbeats 1000000 in
theorem indexFunc_any (l : List Int) (v : Value) (w : World) (hs : SlZ w v l) :
    Calls Tryd.prog 61 #[v, .func (.func 35) #[] #[]] w fun e w' => ∃ r : Int, e = .returned (I r) ∧ decide (0 ≤ r) = !(l.all okN) ∧ Ex w w' := by
  obtain ⟨a, cc, rfl, hc, hcm, _, hs⟩ := hs.out
  have HS : Hid (∀ W, Ex w W → ∀ i, i < l.length → ∃ g off, a = some ⟨g, off, none⟩ ∧ g < W.heap.size ∧ W.cell? ⟨g, off + i, none⟩ = some (I (inAt l i))) := Lib.hid fun W k i hi => (hs.ex k).row hi
  have H1 : Hid ((∀ i, i < l.length → okN (inAt l i) = true) → l.all okN = true) := Lib.hid fun h => by
    rw [List.all_eq_true]
    intro x hx
    obtain ⟨i, hi⟩ := List.mem_iff_getElem?.1 hx
    have hl := (List.getElem?_eq_some_iff.1 hi).1
    rw [inAt_get hl] at hi
    obtain rfl := Option.some.inj hi
    exact h i hl
  have H0 : Hid (∀ i, i < l.length → okN (inAt l i) = false → l.all okN = false) := Lib.hid fun i hi h => by
    rw [Bool.eq_false_iff]
    intro ha
    rw [List.all_eq_true] at ha
    have := ha _ (List.mem_of_getElem? (inAt_get hi))
    rw [h] at this
    cases this
  generalize l.all okN = ov at *
  generalize inAt l = p at *
  generalize l.length = n at *
  clear hs
  unfold maxLen at hcm
  go_enter Tryd.func61, Tryd.ntmps61
  go_wp2
  go_loopw [8] (fun i wr => ∃ k : Nat, k ≤ n ∧ i = I k ∧ Hid (∀ i, i < k → okN (p i) = true) ∧ Ex w wr) (fun i _ => n - (intOf i).toNat)
  case atStart => exact ⟨0, by omega, rfl, Lib.hid (fun i hi => absurd hi (by omega)), (by (try show Ex _ _); repeat (first | (with_reducible exact ex_refl _) | (with_reducible assumption) | (with_reducible refine ex_drewL ?_) | (with_reducible refine ex_appR ?_ _) | (with_reducible refine ex_wx ?_ _) | (with_reducible refine ex_drew ?_) | (with_reducible refine ex_alloc ?_ _)))⟩
  case round =>
    obtain ⟨k, hk, rfl, HK, kr⟩ := hrel
    by_cases hlt : k < n
    · obtain ⟨g, off, rfl, r1, r2⟩ := HS.out wr kr k hlt
      have H0k := Lib.hid (H0.out k hlt)
      have HKn : Hid (okN (p k) = true → ∀ i, i < k + 1 → okN (p i) = true) := Lib.hid fun h i hi => by
        rcases Nat.lt_or_ge i k with h2 | h2
        · exact HK.out i h2
        · obtain rfl : i = k := by omega
          exact h
      clear H0 H1 HS HK
      generalize p k = pk at *
      by_cases h1 : pk < 1
      · obtain rfl := H0k.out (by unfold okN; rw [decide_eq_false (by omega)]; rfl)
        clear HKn H0k
        go_wp2
        go_ret
        exact ⟨k, rfl, by simp, (by (try show Ex _ _); repeat (first | (with_reducible exact ex_refl _) | (with_reducible assumption) | (with_reducible refine ex_drewL ?_) | (with_reducible refine ex_appR ?_ _) | (with_reducible refine ex_wx ?_ _) | (with_reducible refine ex_drew ?_) | (with_reducible refine ex_alloc ?_ _)))⟩
      · by_cases h2 : 255 < pk
        · obtain rfl := H0k.out (by unfold okN; rw [decide_eq_false (show ¬ pk ≤ 255 by omega), Bool.and_false])
          clear HKn H0k
          go_wp2
          go_ret
          exact ⟨k, rfl, by simp, (by (try show Ex _ _); repeat (first | (with_reducible exact ex_refl _) | (with_reducible assumption) | (with_reducible refine ex_drewL ?_) | (with_reducible refine ex_appR ?_ _) | (with_reducible refine ex_wx ?_ _) | (with_reducible refine ex_drew ?_) | (with_reducible refine ex_alloc ?_ _)))⟩
        · have HK3 := Lib.hid (HKn.out (by unfold okN; rw [decide_eq_true (show 1 ≤ pk by omega), decide_eq_true (show pk ≤ 255 by omega)]; rfl))
          clear HKn H0k
          go_wp2
          refine ⟨⟨k + 1, by omega, by go_num, HK3, (by (try show Ex _ _); repeat (first | (with_reducible exact ex_refl _) | (with_reducible assumption) | (with_reducible refine ex_drewL ?_) | (with_reducible refine ex_appR ?_ _) | (with_reducible refine ex_wx ?_ _) | (with_reducible refine ex_drew ?_) | (with_reducible refine ex_alloc ?_ _)))⟩, by simp [intOf]; omega⟩
    · obtain rfl : k = n := by omega
      obtain rfl := H1.out HK.out
      clear hlt hk H0 HS
      go_wp2
      go_ret
      exact ⟨-1, rfl, by simp, (by (try show Ex _ _); repeat (first | (with_reducible exact ex_refl _) | (with_reducible assumption) | (with_reducible refine ex_drewL ?_) | (with_reducible refine ex_appR ?_ _) | (with_reducible refine ex_wx ?_ _) | (with_reducible refine ex_drew ?_) | (with_reducible refine ex_alloc ?_ _)))⟩
set_option maxHeartbeats 1000000 in
theorem containsFunc_any (l : List Int) (v : Value) (w : World) (hs : SlZ w v l) :
    Calls Tryd.prog 36 #[v, .func (.func 35) #[] #[]] w (Post w (.bool (!(l.all okN)))) := by
  have HP := Lib.hid (fun w' (k : Ex w w') => indexFunc_any l v w' (hs.ex k))
  obtain ⟨a, cc, rfl, hc, hcm, _, hs⟩ := hs.out
  go_enter Tryd.func36, Tryd.ntmps36
  go_wp2_with (go_at_call 61; (with_reducible refine (HP.out _ (by (try show Ex _ _); repeat (first | (with_reducible exact ex_refl _) | (with_reducible assumption) | (with_reducible refine ex_drewL ?_) | (with_reducible refine ex_appR ?_ _) | (with_reducible refine ex_wx ?_ _) | (with_reducible refine ex_drew ?_) | (with_reducible refine ex_alloc ?_ _)))).mono ?_); rintro e w2 ⟨r, rfl, hr, X, rfl⟩)
  go_ret
  exact post_mk (by rw [← hr]; rfl) (by (try show Ex _ _); repeat (first | (with_reducible exact ex_refl _) | (with_reducible assumption) | (with_reducible refine ex_drewL ?_) | (with_reducible refine ex_appR ?_ _) | (with_reducible refine ex_wx ?_ _) | (with_reducible refine ex_drew ?_) | (with_reducible refine ex_alloc ?_ _)))
end Go.Proofs.YtpcfkjeikhehaaaDoor

/- Check of the package frame. -/
set_option linter.unusedSimpArgs false
set_option linter.unusedVariables false
set_option maxRecDepth 20000
namespace Go.Proofs.YtpcfkjeikhehaaaDoor
open Go.RowKit
def nodeB (n : Int) : Bool := decide (1 ≤ n) && decide (n ≤ 5)
theorem node_any (n : Int) (w : World) : Calls Tryd.prog 34 #[I n] w (Post w (.bool (nodeB n))) := by
  go_enter Tryd.func34, Tryd.ntmps34
  go_wp2
  all_goals (go_ret; refine post_mk (congrArg (fun b => Ending.returned (.bool b)) ?_) (by (try show Ex _ _); repeat (first | (with_reducible exact ex_refl _) | (with_reducible assumption) | (with_reducible refine ex_drewL ?_) | (with_reducible refine ex_appR ?_ _) | (with_reducible refine ex_wx ?_ _) | (with_reducible refine ex_drew ?_) | (with_reducible refine ex_alloc ?_ _))); simp_all [nodeB] <;> omega)
def endsC (nf nt : Bool) (fr to : Int) (tm : UInt64) : Bool := nf && nt && decide (fr ≠ to) && decide (1 ≤ ln tm) && decide (ln tm ≤ 4611686018427387904)
def farC (en mn dn : Nat) : Bool := decide (8 < en) || decide (5 < mn) || decide (65536 < dn)
def kindC (kd : Int) (pi : UInt64) (zb : Bool) : Bool := decide (1 ≤ kd) && decide (kd ≤ 5) && zb && !(decide (kd = 5) && decide (pi = 0))
def errC (b : Bool) : Int := if b then 0 else 170
set_option maxHeartbeats 4000000 in
theorem check_core (kd fr to : Int) (tm pi pt cm : UInt64) (ea ma da : Option Addr) (en ec mn mc dn dc : Nat) (ok : Bool) (w : World) (zb ao : Bool) (le : Int)
    (hz : 1 ≤ kd → kd ≤ 5 → ∀ w', Ex w w' → Calls Tryd.prog 33 #[.agg #[I kd, I fr, I to, L tm, L pi, L pt, .slice ea en ec, L cm, .bool ok, .slice ma mn mc, .slice da dn dc]] w' (Post w' (.bool zb)))
    (hc : ∀ w', Ex w w' → Calls Tryd.prog 36 #[.slice ma mn mc, .func (.func 35) #[] #[]] w' (Post w' (.bool (!ao))))
    (hl : ∀ w', Ex w w' → Calls Tryd.prog 37 #[.agg #[L pi, L pt, .slice ea en ec], L tm] w' (Post w' (I le))) :
    Calls Tryd.prog 18 #[.agg #[I kd, I fr, I to, L tm, L pi, L pt, .slice ea en ec, L cm, .bool ok, .slice ma mn mc, .slice da dn dc]] w
      (Post w (I (errC (kindC kd pi zb && endsC (nodeB fr) (nodeB to) fr to tm && !farC en mn dn && ao && decide (le = 0))))) := by
  have HC := Lib.hid hc
  have HL := Lib.hid hl
  have HN := Lib.hid (fun w' => node_any fr w')
  have HM := Lib.hid (fun w' => node_any to w')
  generalize nodeB fr = nf at *
  generalize nodeB to = nt at *
  clear hc hl
  by_cases h1 : kd < 1
  · rw [show kindC kd pi zb = false by unfold kindC; rw [decide_eq_false (by omega)]; rfl]
    simp only [Bool.false_and]
    clear HC HL HN HM hz
    go_enter Tryd.func18, Tryd.ntmps18
    go_wp2
    go_ret
    exact post_mk rfl (by (try show Ex _ _); repeat (first | (with_reducible exact ex_refl _) | (with_reducible assumption) | (with_reducible refine ex_drewL ?_) | (with_reducible refine ex_appR ?_ _) | (with_reducible refine ex_wx ?_ _) | (with_reducible refine ex_drew ?_) | (with_reducible refine ex_alloc ?_ _)))
  by_cases h5 : 5 < kd
  · rw [show kindC kd pi zb = false by unfold kindC; rw [decide_eq_false (show ¬ kd ≤ 5 by omega), Bool.and_false]; rfl]
    simp only [Bool.false_and]
    clear HC HL HN HM hz
    go_enter Tryd.func18, Tryd.ntmps18
    go_wp2
    go_ret
    exact post_mk rfl (by (try show Ex _ _); repeat (first | (with_reducible exact ex_refl _) | (with_reducible assumption) | (with_reducible refine ex_drewL ?_) | (with_reducible refine ex_appR ?_ _) | (with_reducible refine ex_wx ?_ _) | (with_reducible refine ex_drew ?_) | (with_reducible refine ex_alloc ?_ _)))
  have HZ := Lib.hid (hz (by omega) (by omega))
  clear hz
  cases zb with
  | false =>
    rw [show kindC kd pi false = false by unfold kindC; rw [Bool.and_false]; rfl]
    simp only [Bool.false_and]
    clear HC HL HN HM
    go_enter Tryd.func18, Tryd.ntmps18
    go_wp2_with (go_at_call 33; (with_reducible refine (HZ.out _ (by (try show Ex _ _); repeat (first | (with_reducible exact ex_refl _) | (with_reducible assumption) | (with_reducible refine ex_drewL ?_) | (with_reducible refine ex_appR ?_ _) | (with_reducible refine ex_wx ?_ _) | (with_reducible refine ex_drew ?_) | (with_reducible refine ex_alloc ?_ _)))).mono ?_); rintro e w2 ⟨rfl, X, rfl⟩)
    go_ret
    exact post_mk rfl (by (try show Ex _ _); repeat (first | (with_reducible exact ex_refl _) | (with_reducible assumption) | (with_reducible refine ex_drewL ?_) | (with_reducible refine ex_appR ?_ _) | (with_reducible refine ex_wx ?_ _) | (with_reducible refine ex_drew ?_) | (with_reducible refine ex_alloc ?_ _)))
  | true =>
    by_cases hs : kd = 5 ∧ pi = 0
    · obtain ⟨rfl, rfl⟩ := hs
      rw [show kindC 5 0 true = false from rfl]
      simp only [Bool.false_and]
      clear HC HL HN HM
      have e0 : ln 0 = 0 := rfl
      go_enter Tryd.func18, Tryd.ntmps18
      go_wp2_with (go_at_call 33; (with_reducible refine (HZ.out _ (by (try show Ex _ _); repeat (first | (with_reducible exact ex_refl _) | (with_reducible assumption) | (with_reducible refine ex_drewL ?_) | (with_reducible refine ex_appR ?_ _) | (with_reducible refine ex_wx ?_ _) | (with_reducible refine ex_drew ?_) | (with_reducible refine ex_alloc ?_ _)))).mono ?_); rintro e w2 ⟨rfl, X, rfl⟩)
      go_ret
      exact post_mk rfl (by (try show Ex _ _); repeat (first | (with_reducible exact ex_refl _) | (with_reducible assumption) | (with_reducible refine ex_drewL ?_) | (with_reducible refine ex_appR ?_ _) | (with_reducible refine ex_wx ?_ _) | (with_reducible refine ex_drew ?_) | (with_reducible refine ex_alloc ?_ _)))
    · rw [show kindC kd pi true = true by
        unfold kindC
        rw [decide_eq_true (show 1 ≤ kd by omega), decide_eq_true (show kd ≤ 5 by omega)]
        by_cases h : kd = 5
        · rw [decide_eq_false (fun e => hs ⟨h, e⟩)]; simp
        · rw [decide_eq_false h]; simp]
      simp only [Bool.true_and]
      by_cases h : kd = 5
      · have hp0 : (ln pi == 0) = false := by rw [ln_zero, decide_eq_false (fun e => hs ⟨h, e⟩)]
        subst h
        clear hs h1 h5
        go_enter Tryd.func18, Tryd.ntmps18
        go_wp2_with (first | (go_at_call 33; (with_reducible refine (HZ.out _ (by (try show Ex _ _); repeat (first | (with_reducible exact ex_refl _) | (with_reducible assumption) | (with_reducible refine ex_drewL ?_) | (with_reducible refine ex_appR ?_ _) | (with_reducible refine ex_wx ?_ _) | (with_reducible refine ex_drew ?_) | (with_reducible refine ex_alloc ?_ _)))).mono ?_); rintro e w2 ⟨rfl, X, rfl⟩; clear HZ) | (go_at_call 34; (with_reducible refine (HN.out _).mono ?_); rintro e w2 ⟨rfl, X2, rfl⟩; clear HN) | (go_at_call 34; (with_reducible refine (HM.out _).mono ?_); rintro e w2 ⟨rfl, X3, rfl⟩; clear HM) | (go_at_call 36; (with_reducible refine (HC.out _ (by (try show Ex _ _); repeat (first | (with_reducible exact ex_refl _) | (with_reducible assumption) | (with_reducible refine ex_drewL ?_) | (with_reducible refine ex_appR ?_ _) | (with_reducible refine ex_wx ?_ _) | (with_reducible refine ex_drew ?_) | (with_reducible refine ex_alloc ?_ _)))).mono ?_); rintro e w2 ⟨rfl, X4, rfl⟩; clear HC) | (go_at_call 37; (with_reducible refine (HL.out _ (by (try show Ex _ _); repeat (first | (with_reducible exact ex_refl _) | (with_reducible assumption) | (with_reducible refine ex_drewL ?_) | (with_reducible refine ex_appR ?_ _) | (with_reducible refine ex_wx ?_ _) | (with_reducible refine ex_drew ?_) | (with_reducible refine ex_alloc ?_ _)))).mono ?_); rintro e w2 ⟨rfl, X5, rfl⟩; clear HL))
        all_goals (go_ret; refine post_mk (congrArg (fun b => Ending.returned (.int .i64 b)) ?_) (by (try show Ex _ _); repeat (first | (with_reducible exact ex_refl _) | (with_reducible assumption) | (with_reducible refine ex_drewL ?_) | (with_reducible refine ex_appR ?_ _) | (with_reducible refine ex_wx ?_ _) | (with_reducible refine ex_drew ?_) | (with_reducible refine ex_alloc ?_ _))); (try simp_all [errC, endsC, farC]) <;> omega)
      · have hk0 : (kd == 5) = false := beq_eq_false_iff_ne.2 h
        clear hs h
        go_enter Tryd.func18, Tryd.ntmps18
        go_wp2_with (first | (go_at_call 33; (with_reducible refine (HZ.out _ (by (try show Ex _ _); repeat (first | (with_reducible exact ex_refl _) | (with_reducible assumption) | (with_reducible refine ex_drewL ?_) | (with_reducible refine ex_appR ?_ _) | (with_reducible refine ex_wx ?_ _) | (with_reducible refine ex_drew ?_) | (with_reducible refine ex_alloc ?_ _)))).mono ?_); rintro e w2 ⟨rfl, X, rfl⟩; clear HZ) | (go_at_call 34; (with_reducible refine (HN.out _).mono ?_); rintro e w2 ⟨rfl, X2, rfl⟩; clear HN) | (go_at_call 34; (with_reducible refine (HM.out _).mono ?_); rintro e w2 ⟨rfl, X3, rfl⟩; clear HM) | (go_at_call 36; (with_reducible refine (HC.out _ (by (try show Ex _ _); repeat (first | (with_reducible exact ex_refl _) | (with_reducible assumption) | (with_reducible refine ex_drewL ?_) | (with_reducible refine ex_appR ?_ _) | (with_reducible refine ex_wx ?_ _) | (with_reducible refine ex_drew ?_) | (with_reducible refine ex_alloc ?_ _)))).mono ?_); rintro e w2 ⟨rfl, X4, rfl⟩; clear HC) | (go_at_call 37; (with_reducible refine (HL.out _ (by (try show Ex _ _); repeat (first | (with_reducible exact ex_refl _) | (with_reducible assumption) | (with_reducible refine ex_drewL ?_) | (with_reducible refine ex_appR ?_ _) | (with_reducible refine ex_wx ?_ _) | (with_reducible refine ex_drew ?_) | (with_reducible refine ex_alloc ?_ _)))).mono ?_); rintro e w2 ⟨rfl, X5, rfl⟩; clear HL))
        all_goals (go_ret; refine post_mk (congrArg (fun b => Ending.returned (.int .i64 b)) ?_) (by (try show Ex _ _); repeat (first | (with_reducible exact ex_refl _) | (with_reducible assumption) | (with_reducible refine ex_drewL ?_) | (with_reducible refine ex_appR ?_ _) | (with_reducible refine ex_wx ?_ _) | (with_reducible refine ex_drew ?_) | (with_reducible refine ex_alloc ?_ _))); (try simp_all [errC, endsC, farC]) <;> omega)
end Go.Proofs.YtpcfkjeikhehaaaDoor

/- append onto bytes of the call's own, and where they lie then. -/
set_option linter.unusedSimpArgs false
set_option linter.unusedVariables false
set_option maxRecDepth 20000
namespace Go.Proofs.YtpcfkjeikhehaaaDoor
open Go.RowKit
/-- What holds behind appends onto v, which has become v'. -/
structure App (w w' : World) (v v' : Value) : Prop where
  os : w'.os = w.os
  tape : w'.tape = w.tape
  output : w'.output = w.output
  size : w.heap.size ≤ w'.heap.size
  block : ∀ k, k < w.heap.size → v.ownBlock ≠ some k → w'.heap[k]? = w.heap[k]?
  own : v'.ownBlock = v.ownBlock ∨ ∃ g, v'.ownBlock = some g ∧ w.heap.size ≤ g
theorem App.ofEx {w w' : World} (k : Ex w w') (v : Value) : App w w' v v := by
  obtain ⟨X, rfl⟩ := k
  exact ⟨rfl, rfl, rfl, by rw [wx_size]; omega, fun k hk _ => wx_heap w X k hk, Or.inl rfl⟩
theorem App.trans {a b c : World} {u v x : Value} (h : App a b u v) (k : App b c v x) : App a c u x := by
  refine ⟨k.os.trans h.os, k.tape.trans h.tape, k.output.trans h.output, Nat.le_trans h.size k.size, fun i hi hu => ?_, ?_⟩
  · rw [k.block i (Nat.lt_of_lt_of_le hi h.size) fun e => ?_, h.block i hi hu]
    rcases h.own with h1 | ⟨g, h1, h2⟩
    · exact hu (h1 ▸ e)
    · rw [h1] at e
      have := Option.some.inj e
      omega
  · rcases k.own with h1 | ⟨g, h1, h2⟩
    · rcases h.own with h3 | ⟨g, h3, h4⟩
      · exact Or.inl (h1.trans h3)
      · exact Or.inr ⟨g, h1.trans h3, h4⟩
    · have := h.size
      exact Or.inr ⟨g, h1, by omega⟩
theorem App.below {w w' : World} {v v' : Value} (h : App w w' v v') {Z : Nat} (hZ : Z ≤ w.heap.size) (hv : ∀ g, v.ownBlock = some g → Z ≤ g) : Below Z w w' :=
  ⟨h.os, h.tape, h.output, h.size, fun k hk => h.block k (by omega) fun e => by have := hv k e; omega⟩
theorem OwnL.low {w : World} {Z : Nat} {v : Value} {l : List UInt8} (h : OwnL w Z v l) : ∀ g, v.ownBlock = some g → Z ≤ g := fun g hg => (World.ownsRow.lt h g hg).1
theorem App.ex {A w w' : World} {v v' : Value} {l : List UInt8} (h : App w w' v v') (k : Ex A w) (ho : OwnL w A.heap.size v l) : Ex A w' :=
  ex_of_below ((ex_below k).trans (h.below (ex_size k) ho.low))
theorem run_append_none {P : Program} {t ty e : TypeId} {i : TypeInfo} (ht : P.underlying t = some (.slice e)) (hi : P.info? e = some i) (a : Option Addr) (n c : Nat) (hn : n ≤ c) (w : World) :
    (Builtin.append_ #[t, t] ty #[.slice a n c, .slice none 0 0]).run P w = .ok (.slice a n c) w := by
  cases a with
  | none => simp [Builtin.append_, run_underlying ht, sizeOf, typeInfo, hi, Builtin.lenOf, Builtin.firstCells, hn]
  | some ad => simp [Builtin.append_, run_underlying ht, sizeOf, typeInfo, hi, Builtin.lenOf, Builtin.firstCells, hn, storeCells]
theorem wpAppT {ops : Array Oper} {rest : List Oper} {o : Oper} {a : Act} {w : World} {Q : Exit → Act → World → Prop} (s x : Operand) (hgd : o.guard = none)
    (ho : o.op = .call { callee := .builtin .append, args := #[s, x], argTypes := #[27, 27] })
    {Z : Nat} {v vx : Value} {l r : List UInt8} (hown : OwnL w Z v l) (hs : a.eval s = v) (hx : a.eval x = vx) (hr : SlT w vx r) (hlen : l.length + r.length ≤ 140737488355328) (hZ : Z ≤ w.heap.size)
    (h : ∀ v' w', OwnL w' Z v' (l ++ r) → App w w' v v' → wpList Tryd.prog ops Q rest (a.put o.dst v') w') : wpList Tryd.prog ops Q (o :: rest) a w := by
  obtain ⟨i, hi, h1', h2', h3'⟩ := info_parts appu8.hi
  obtain ⟨ad, c, rfl, h1, h2, h3, h4⟩ := hr.out
  cases ad with
  | none =>
    have hc := h3 rfl
    obtain rfl : r = [] := List.eq_nil_of_length_eq_zero (by omega)
    subst hc
    obtain ⟨b, d, hv, k1, k2, k3⟩ := own_form hown
    have hrun := run_append_none (P := Tryd.prog) (ty := o.type) appu8.ht hi b l.length d k1 w
    refine wpList_plain hgd fun K hK => ?_
    unfold Oper.wp execOp
    simp only [ho, resolve, invoke, builtin, Sem.run_bind, Sem.run_pure, Result.andThen_ok, List.map_toArray, List.map_cons, List.map_nil, hs, hx, hv]
    simp only [List.length_nil] at *
    rw [hrun]
    refine hK _ _ (h _ _ ?_ (hv ▸ App.ofEx (ex_refl w) v))
    rw [List.append_nil, ← hv]
    exact hown
  | some ad =>
    refine wpList_append_own_at w hgd s x _ ho Z _ i _ _ _ appu8.ht hi h1' h2' h3' appu8.hzs appu8.hsz v _ _ hs hown ad r.length c (Lib.byteCells r) hx (by rw [bytes_len, Nat.mul_one]) (sll_news h4 (ex_refl _)) (bytes_one _) (by unfold maxLen; omega) (by omega) hZ fun v' w' k1 k2 _ k3 => ?_
    rw [bytes_app, ← List.length_append] at k1
    refine h v' w' k1 ⟨k2.os, k2.tape, k2.output, k2.size, fun k hk hne => k2.block k hk (fun e => hne e.symm), ?_⟩
    rcases k3 with k3 | k3
    · exact Or.inl k3
    · exact Or.inr ⟨_, k3, Nat.le_refl _⟩
end Go.Proofs.YtpcfkjeikhehaaaDoor
