import Derived.Test.YtcdocklbpfdmeaaDoorMSpM
import Derived.Test.YtcdocklbpfdmeaaDoorMDsGd
import Derived.Test.YtcdocklbpfdmeaaDoorMSameP
import Derived.Test.YtcdocklbpfdmeaaDoorMLbA

/- CollideSpans: rows that came in, copies, what is appended to an empty slice. -/
set_option linter.unusedSimpArgs false
set_option linter.unusedVariables false
set_option linter.unnecessarySimpa false
set_option maxRecDepth 20000
namespace Go.Proofs.YtcdocklbpfdmeaaDoor
open Go.RowKit
theorem run_append_noneP {P : Program} {t ty e : TypeId} {i : TypeInfo} (ht : P.underlying t = some (.slice e)) (hi : P.info? e = some i) (a : Option Addr) (n c : Nat) (hn : n ≤ c) (w : World) :
    (Builtin.append_ #[t, t] ty #[.slice a n c, .slice none 0 0]).run P w = .ok (.slice a n c) w := by
  cases a with
  | none => simp [Builtin.append_, run_underlying ht, sizeOf, typeInfo, hi, Builtin.lenOf, Builtin.firstCells, hn]
  | some ad => simp [Builtin.append_, run_underlying ht, sizeOf, typeInfo, hi, Builtin.lenOf, Builtin.firstCells, hn, storeCells]
/-- append of pairs, none or some, onto an empty slice without room. -/
theorem wpAppPN {ops : Array Oper} {rest : List Oper} {o : Oper} {a : Act} {w : World} {Q : Exit → Act → World → Prop} (s x : Operand) (hgd : o.guard = none)
    (ho : o.op = .call { callee := .builtin .append, args := #[s, x], argTypes := #[22, 22] })
    {ao : Option Addr} {r : List Pr} {pa : Option Addr} {m c : Nat} (hs : a.eval s = .slice ao 0 0) (hx : a.eval x = .slice pa m c) (hm : m = r.length) (hc : m ≤ c) (hn : pa = none → c = 0) (hr : SlP w pa r) (h0 : pa = none ∨ 0 < m) (hlen : m ≤ 1000000)
    (h : ∀ a' c' w', m ≤ c' → c' ≤ maxLen → SlP w' a' r → Ex w w' → wpList Tryd.prog ops Q rest (a.put o.dst (.slice a' m c')) w') : wpList Tryd.prog ops Q (o :: rest) a w := by
  cases pa with
  | none =>
    have hc0 := hn rfl
    subst hc0
    have hm0 : m = 0 := by omega
    subst hm0
    obtain rfl : r = [] := List.eq_nil_of_length_eq_zero hm.symm
    obtain ⟨i, hi, _⟩ := info_parts appCell.hi
    have hrun := run_append_noneP (P := Tryd.prog) (ty := o.type) appCell.ht hi ao 0 0 (Nat.le_refl _) w
    refine wpList_plain hgd fun K hK => ?_
    unfold Oper.wp execOp
    simp only [ho, resolve, invoke, builtin, Sem.run_bind, Sem.run_pure, Result.andThen_ok, List.map_toArray, List.map_cons, List.map_nil, hs, hx]
    rw [hrun]
    exact hK _ _ (h _ _ _ (Nat.le_refl _) (Nat.zero_le _) (SlP.nil _ _) (ex_refl w))
  | some ad =>
    refine wpAppPE s x hgd ho hs hx hm hr (h0.resolve_left (by simp)) hlen fun v' w' hown k => ?_
    obtain ⟨a', c', rfl, h1, h2, _, h4⟩ := hown.slg
    rw [← hm] at h1 ⊢
    exact h a' c' w' h1 h2 h4 k
theorem ask_parts {w : World} {b : Nat} {r : Rg} {T F : Int} {pv qv : Value} (h : cellsN w b 0 7 = some (askR r T F pv qv)) : cellsN w b 0 3 = some #[.string r.lo, .string r.hi, .bool r.op] ∧ cellsN w b 3 4 = some #[I T, I F, pv, qv] := by
  obtain ⟨_, hk⟩ := cellsN_some.1 h
  constructor
  · refine cellsN_some.2 ⟨rfl, fun k hk3 => ?_⟩
    have := hk k (by omega)
    rw [this]
    match k, hk3 with
    | 0, _ => rfl
    | 1, _ => rfl
    | 2, _ => rfl
  · refine cellsN_some.2 ⟨rfl, fun k hk4 => ?_⟩
    have := hk (3 + k) (by omega)
    rw [Nat.zero_add] at this
    rw [this]
    match k, hk4 with
    | 0, _ => rfl
    | 1, _ => rfl
    | 2, _ => rfl
    | 3, _ => rfl
/-- In the midst of the law: two copies of what is asked. -/
def midY (W5 : World) (R : Rg) (T F : Int) (ps : List Pr) (qs : List Dg) (ks : List Nat) (a0 a' : Act) (w' : World) : Prop :=
  ∃ (b7 b8 : Nat) (pa : Option Addr) (pc : Nat) (qa : Option Addr) (qc : Nat) (pa' : Option Addr) (pc' : Nat) (qa' : Option Addr) (qc' : Nat), a'.tmps.getD 9 undef = .pointer (some ⟨b7, 0, none⟩) ∧ a'.tmps.getD 10 undef = .pointer (some ⟨b8, 0, none⟩) ∧ a' = ks.foldl (fun a k => a.put (some k) (a'.tmps.getD k undef)) a0 ∧
    cellsN w' b7 0 7 = some (askR R T F (.slice pa ps.length pc) (.slice qa qs.length qc)) ∧ cellsN w' b8 0 7 = some (askR R T F (.slice pa' ps.length pc') (.slice qa' qs.length qc')) ∧
    ((∃ Z, OwnP w' Z (.slice pa ps.length pc) ps) ∧ (∃ Z, OwnD w' Z (.slice qa qs.length qc) qs)) ∧ ((∃ Z, OwnP w' Z (.slice pa' ps.length pc') ps) ∧ (∃ Z, OwnD w' Z (.slice qa' qs.length qc') qs)) ∧ b7 < w'.heap.size ∧ b8 < w'.heap.size ∧ Ex W5 w'
theorem midY_mk {W5 : World} {R : Rg} {T F : Int} {ps : List Pr} {qs : List Dg} {ks : List Nat} {a0 a' : Act} {w' : World} {b7 b8 : Nat} {pa : Option Addr} {pc : Nat} {qa : Option Addr} {qc : Nat} {pa' : Option Addr} {pc' : Nat} {qa' : Option Addr} {qc' : Nat} (h1 : a'.tmps.getD 9 undef = .pointer (some ⟨b7, 0, none⟩)) (h2 : a'.tmps.getD 10 undef = .pointer (some ⟨b8, 0, none⟩)) (h3 : a' = ks.foldl (fun a k => a.put (some k) (a'.tmps.getD k undef)) a0)
    (h4 : cellsN w' b7 0 7 = some (askR R T F (.slice pa ps.length pc) (.slice qa qs.length qc))) (h5 : cellsN w' b8 0 7 = some (askR R T F (.slice pa' ps.length pc') (.slice qa' qs.length qc'))) (h6 : ∃ Z, OwnP w' Z (.slice pa ps.length pc) ps) (h6' : ∃ Z, OwnD w' Z (.slice qa qs.length qc) qs) (h7 : ∃ Z, OwnP w' Z (.slice pa' ps.length pc') ps) (h7' : ∃ Z, OwnD w' Z (.slice qa' qs.length qc') qs) (h8 : b7 < w'.heap.size) (h9 : b8 < w'.heap.size) (h10 : Ex W5 w') : midY W5 R T F ps qs ks a0 a' w' :=
  ⟨b7, b8, pa, pc, qa, qc, pa', pc', qa', qc', h1, h2, h3, h4, h5, ⟨h6, h6'⟩, ⟨h7, h7'⟩, h8, h9, h10⟩
/-- A slice of what is asked, that came in. -/
structure SlAk (w : World) (a : Option Addr) (n : Nat) : Prop where
  out : n = 0 ∨ ∃ g off, a = some ⟨g, off, none⟩ ∧ g < w.heap.size ∧ ∀ i, i < n → ∃ (R : Rg) (t f : Int) (pa : Option Addr) (ps : List Pr) (pc : Nat) (qa : Option Addr) (qs : List Dg) (qc : Nat), cellsN w g (off + i * 7) 7 = some (askR R t f (.slice pa ps.length pc) (.slice qa qs.length qc)) ∧
    ps.length ≤ pc ∧ pc ≤ maxLen ∧ SlP w pa ps ∧ qs.length ≤ qc ∧ qc ≤ maxLen ∧ (qa = none → qc = 0) ∧ SlD w qa qs
theorem SlAk.ex {w w' : World} {a : Option Addr} {n : Nat} (h : SlAk w a n) (k : Ex w w') : SlAk w' a n := by
  rcases h.out with rfl | ⟨g, off, rfl, hg, hi⟩
  · exact ⟨Or.inl rfl⟩
  · refine ⟨Or.inr ⟨g, off, rfl, by obtain ⟨X, rfl⟩ := k; rw [wx_size]; omega, fun i h => ?_⟩⟩
    obtain ⟨R, t, f, pa, ps, pc, qa, qs, qc, h1, h2, h3, h4, h5, h6, h7, h8⟩ := hi i h
    exact ⟨R, t, f, pa, ps, pc, qa, qs, qc, cellsN_exF h1 hg k, h2, h3, h4.ex k, h5, h6, h7, h8.ex k⟩
@[go_sem] theorem ltq_far1 (a b : Nat) : (a < a + 1 + b) = True := eq_true (by omega)
@[go_sem] theorem ltq_far2 (a b : Nat) : (a < a + 1 + b + 1) = True := eq_true (by omega)
@[go_sem] theorem ltq_far3 (a b : Nat) : (a < a + 1 + 1 + b) = True := eq_true (by omega)
@[go_sem] theorem ltq_far4 (a b c : Nat) : (a < a + 1 + b + 1 + c) = True := eq_true (by omega)
@[go_sem] theorem eqq_far1 (a b : Nat) : (a = a + 1 + b) = False := eq_false (by omega)
end Go.Proofs.YtcdocklbpfdmeaaDoor

/- CollideSpans: how rows of what is asked open. -/
set_option linter.unusedSimpArgs false
set_option linter.unusedVariables false
set_option linter.unnecessarySimpa false
set_option maxRecDepth 20000
namespace Go.Proofs.YtcdocklbpfdmeaaDoor
open Go.RowKit Go.ChangeShapes Go.WideShapes Go.ChangeAt
section
variable {H : Type} {enc : TypeId × Value → H} {w : World} {base : Nat} {sp : Nat → Bool} {held : Bool}
theorem asked_of_trod {fuel : Nat} {cs : List Value} {x : DataW H × List MemPlace} (hf : DataW.trod enc Tryd.prog w base sp held fuel 29 cs = some x) :
    ∃ (R : Rg) (t f : Int) (pa : Option Addr) (ps : List Pr) (pc : Nat) (qa : Option Addr) (qs : List Dg) (qc : Nat), cs = (askR R t f (.slice pa ps.length pc) (.slice qa qs.length qc)).toList ∧
      ps.length ≤ pc ∧ pc ≤ maxLen ∧ SlP w pa ps ∧ qs.length ≤ qc ∧ qc ≤ maxLen ∧ (qa = none → qc = 0) ∧ SlD w qa qs := by
  obtain ⟨xs, m, _, _, hl, hxl, hel⟩ := DataW.trod_struct Tryd.underlying29 hf
  rw [casked] at hl
  have hxl' : xs.length = 2 := hxl
  have e0 : DataW.trod enc Tryd.prog w base sp held m 24 ((cs.drop 0).take (Tryd.prog.cellsOf 24)) = xs[0]? := hel 0 _ rfl
  have e1 : DataW.trod enc Tryd.prog w base sp held m 27 ((cs.drop 3).take (Tryd.prog.cellsOf 27)) = xs[1]? := hel 1 _ rfl
  rw [crange] at e0
  rw [cspan] at e1
  rw [List.getElem?_eq_getElem (by omega)] at e0 e1
  obtain ⟨R, hR⟩ := rg_of_trod e0
  obtain ⟨t, f, pa, ps, pc, qa, qs, qc, hS, hp⟩ := span_of_trod e1
  refine ⟨R, t, f, pa, ps, pc, qa, qs, qc, ?_, hp⟩
  have hcs : cs = (cs.drop 0).take 3 ++ (cs.drop 3).take 4 := by
    rw [List.take_of_length_le (l := cs.drop 3) (by rw [List.length_drop]; omega), List.drop_zero, List.take_append_drop]
  rw [hR, hS] at hcs
  exact hcs
theorem argAskeds {b0 : Nat} {r : Reach} {v : Value} {d : DataW H} {p : List MemPlace} (h : Value.okWide Tryd.prog w r b0 97 v) (hd : DataW.Trod enc Tryd.prog w base sp held 97 v d p) :
    ∃ (a : Option Addr) (n c : Nat), v = .slice a n c ∧ n ≤ c ∧ c ≤ maxLen ∧ SlAk w a n := by
  obtain ⟨fuel, x, hx⟩ := arg_slice Tryd.underlying97 h hd
  obtain ⟨a, len, cap, hv, h1, h2, h3, h4⟩ := slice_open Tryd.underlying97 casked (by decide) hx
  refine ⟨a, len, cap, by simpa using hv, h1, h2, ?_⟩
  rcases h4 with rfl | ⟨g, off, rfl, hg, hi⟩
  · exact ⟨Or.inl rfl⟩
  · refine ⟨Or.inr ⟨g, off, rfl, hg, fun i hil => ?_⟩⟩
    obtain ⟨ecs, f', y, hc, hy⟩ := hi i hil
    obtain ⟨R, t, f, pa, ps, pc, qa, qs, qc, he, hp⟩ := asked_of_trod hy
    refine ⟨R, t, f, pa, ps, pc, qa, qs, qc, cellsN_some.2 ⟨rfl, fun k hk => ?_⟩, hp⟩
    obtain ⟨v, hv1, hv2⟩ := hc k hk
    rw [he, Array.getElem?_toList] at hv1
    rw [Nat.add_assoc, hv2, ← hv1]
end
end Go.Proofs.YtcdocklbpfdmeaaDoor
