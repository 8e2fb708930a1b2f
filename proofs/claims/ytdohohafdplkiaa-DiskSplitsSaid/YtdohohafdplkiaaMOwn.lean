import Derived.Test.YtdohohafdplkiaaMApp
import Derived.Lib.Hide
import Derived.Maps.AppendAt

/- Rows of the call's own whose elements are turned in place. Over whatever program. -/
set_option linter.unusedSimpArgs false
set_option linter.unusedVariables false
set_option maxRecDepth 20000
namespace Go.Proofs.Ytdohohafdplkiaa
open Go.RowKit
section
variable {P : Program} {α : Type} {K : α → List Value} {s : Nat}
theorem flat_len (hK : ∀ a, (K a).length = s) : ∀ l : List α, (l.flatMap K).length = l.length * s
  | [] => by simp
  | a :: l => by rw [List.flatMap_cons, List.length_append, flat_len hK l, hK, List.length_cons, Nat.succ_mul, Nat.add_comm]
theorem flat_get (hK : ∀ a, (K a).length = s) : ∀ (l : List α) (i : Nat) (a : α) (j : Nat), l[i]? = some a → j < s → (l.flatMap K)[i * s + j]? = (K a)[j]?
  | [], i, a, j, h, _ => by simp at h
  | b :: l, 0, a, j, h, hj => by
    have : b = a := by simpa using h
    subst this
    rw [List.flatMap_cons, Nat.zero_mul, Nat.zero_add, List.getElem?_append_left (by rw [hK]; exact hj)]
  | b :: l, i + 1, a, j, h, hj => by
    have h2 : l[i]? = some a := by simpa using h
    rw [List.flatMap_cons, List.getElem?_append_right (by rw [hK, Nat.succ_mul]; omega), hK, Nat.succ_mul, show i * s + s + j - s = i * s + j by omega]
    exact flat_get hK l i a j h2 hj
theorem setCells_heap (b : Nat) : ∀ (vs : List Value) (o : Nat) (w : World) (k : Nat), k ≠ b → (w.setCells b o vs).heap[k]? = w.heap[k]?
  | [], _, _, _, _ => rfl
  | v :: r, o, w, k, h => by
    unfold World.setCells
    rw [setCells_heap b r (o + 1) _ k h]
    simp only [World.setCell, Array.getElem?_modify]
    rw [if_neg (by simpa using Ne.symm h)]
theorem setCells_block (b : Nat) (t : TypeId) (fr : Nat × Nat) : ∀ (vs : List Value) (o : Nat) (w : World) (c : Array Value), w.heap[b]? = some (.cells c t fr) → (w.setCells b o vs).heap[b]? = some (.cells (spliceA c o vs) t fr)
  | [], _, _, _, h => h
  | v :: r, o, w, c, h => by
    unfold World.setCells
    rw [setCells_block b t fr r (o + 1) _ (c.setIfInBounds o v) (by simp [World.setCell, Array.getElem?_modify, h])]
    rfl
theorem setCells_below {Z b : Nat} (hb : Z ≤ b) : ∀ (vs : List Value) (o : Nat) (w : World), Below Z w (w.setCells b o vs)
  | [], _, w => Below.refl Z w
  | v :: r, o, w => by
    unfold World.setCells
    exact ((Below.refl Z w).setCell (p := ⟨b, o, none⟩) hb v).trans (setCells_below hb r (o + 1) _)
/-- The row lies in one block. -/
theorem own_block {w : World} {Z : Nat} {t : TypeId} {v : Value} {n : Nat} {xs : List Value} (h : w.ownsRow Z t s v n xs) (hn : 0 < n) (hs : 0 < s) :
    ∃ g cap cur, v = .slice (some ⟨g, 0, none⟩) n cap ∧ Z ≤ g ∧ w.heap[g]? = some (.cells cur t (0, 0)) ∧ n ≤ cap ∧ cap ≤ maxLen ∧ cur.size = cap * s ∧ cur.toList.take (n * s) = xs := by
  rcases h.2 with ⟨_, h0⟩ | ⟨g, cap, cur, h⟩
  · omega
  · exact ⟨g, cap, cur, h⟩
theorem own_at (hK : ∀ a, (K a).length = s) {w : World} {Z g n cap : Nat} {t : TypeId} {l : List α} (h : w.ownsRow Z t s (.slice (some ⟨g, 0, none⟩) n cap) n (l.flatMap K)) {i : Nat} {a : α} (hi : l[i]? = some a) :
    cellsN w g (i * s) s = some (K a).toArray ∧ frozenN w g (i * s) s = false ∧ Z ≤ g ∧ g < w.heap.size := by
  have hlt := h.lt g rfl
  refine ⟨cellsN_some.2 ⟨by simp [hK], fun j hj => ?_⟩, frozenN_false.2 fun j hj => ?_, hlt⟩
  · have h1 := flat_get hK l i a j hi hj
    rw [List.getElem?_toArray]
    have h2 : (K a)[j]? = some ((K a)[j]'(by rw [hK]; exact hj)) := List.getElem?_eq_getElem _
    rw [h2] at h1 ⊢
    have := h.cells (g := g) rfl _ _ h1
    have hadd : (⟨g, 0, none⟩ : Addr).add (i * s + j) = ⟨g, i * s + j, none⟩ := by unfold Addr.add; split <;> simp_all
    rwa [hadd] at this
  · rcases h.2 with ⟨hv, _⟩ | ⟨g', cap', cur, hv, _, hb, _⟩
    · cases hv
    · cases hv
      simp [World.frozen?, hb]
/-- One element turned. -/
theorem own_set (hK : ∀ a, (K a).length = s) (hs : 0 < s) {w : World} {Z g n cap : Nat} {t : TypeId} {l : List α} (h : w.ownsRow Z t s (.slice (some ⟨g, 0, none⟩) n cap) n (l.flatMap K)) {i : Nat} (a : α) (hi : i < l.length) :
    (w.setCells g (i * s) (K a)).ownsRow Z t s (.slice (some ⟨g, 0, none⟩) n cap) n ((l.set i a).flatMap K) ∧ Below Z w (w.setCells g (i * s) (K a)) := by
  have hlen : l.length = n := by
    have h1 := h.1
    rw [flat_len hK] at h1
    exact Nat.eq_of_mul_eq_mul_right hs h1
  rcases h.2 with ⟨hv, _⟩ | ⟨g', cap', cur, hv, h1, hb, h3, h4, h5, h6⟩
  · cases hv
  · cases hv
    refine ⟨⟨by rw [flat_len hK, List.length_set, hlen], Or.inr ⟨g, cap, spliceA cur (i * s) (K a), rfl, h1, setCells_block _ _ _ _ _ _ _ hb, h3, h4, ?_, ?_⟩⟩, setCells_below h1 _ _ _⟩
    · have : ∀ (vs : List Value) (o : Nat) (c : Array Value), (spliceA c o vs).size = c.size := by
        intro vs
        induction vs with
        | nil => intro o c; rfl
        | cons v r ih =>
          intro o c
          show (spliceA (c.setIfInBounds o v) (o + 1) r).size = _
          rw [ih]; simp
      rw [this, h5]
    · apply List.ext_getElem?
      intro q
      rw [List.getElem?_take]
      have hq0 : q = q / s * s + q % s := by rw [Nat.mul_comm]; exact (Nat.div_add_mod q s).symm
      have hqs := Nat.mod_lt q hs
      generalize q / s = e at hq0
      generalize q % s = j at hq0 hqs
      subst hq0
      by_cases hn : e < n
      · have hin : e * s + j < n * s := by
          have := Nat.mul_le_mul_right s (show e + 1 ≤ n by omega)
          rw [Nat.succ_mul] at this; omega
        have hncap := Nat.mul_le_mul_right s h3
        rw [if_pos hin, Array.getElem?_toList, spliceA_get]
        have hold : cur[e * s + j]? = (l.flatMap K)[e * s + j]? := by
          rw [← h6, List.getElem?_take, if_pos hin, Array.getElem?_toList]
        by_cases hei : e = i
        · subst hei
          rw [if_pos ⟨by omega, by rw [hK]; omega, by rw [h5]; omega⟩, flat_get hK _ e a j (by rw [List.getElem?_set_self (by omega)]) hqs, Nat.add_sub_cancel_left]
        · have hne : ¬ (i * s ≤ e * s + j ∧ e * s + j < i * s + (K a).length ∧ e * s + j < cur.size) := by
            rw [hK]
            rintro ⟨k1, k2, _⟩
            rcases Nat.lt_or_gt_of_ne hei with h | h
            · have := Nat.mul_le_mul_right s (show e + 1 ≤ i by omega)
              rw [Nat.succ_mul] at this; omega
            · have := Nat.mul_le_mul_right s (show i + 1 ≤ e by omega)
              rw [Nat.succ_mul] at this; omega
          rw [if_neg hne, hold]
          have hle : e < l.length := by omega
          rw [flat_get hK l e l[e] j (List.getElem?_eq_getElem hle) hqs, flat_get hK (l.set i a) e l[e] j (by rw [List.getElem?_set_ne (Ne.symm hei), List.getElem?_eq_getElem hle]) hqs]
      · have hin : ¬ e * s + j < n * s := by
          have := Nat.mul_le_mul_right s (show n ≤ e by omega)
          omega
        rw [if_neg hin, List.getElem?_eq_none]
        rw [flat_len hK, List.length_set, hlen]; omega
@[go_sem] theorem setCells_isSome (w : World) (b o : Nat) (vs : List Value) (b' o' n : Nat) : (cellsN (w.setCells b o vs) b' o' n).isSome = (cellsN w b' o' n).isSome := by
  have hc : ∀ (vs : List Value) (o : Nat) (w : World) (a : Addr), ((w.setCells b o vs).cell? a).isSome = (w.cell? a).isSome := by
    intro vs
    induction vs with
    | nil => intro o w a; rfl
    | cons v r ih =>
      intro o w a
      unfold World.setCells
      rw [ih]
      obtain ⟨ab, ao, asp⟩ := a
      simp only [World.cell?, World.setCell, Array.getElem?_modify]
      by_cases h : b = ab
      · subst h
        cases hb : w.heap[b]? with
        | none => simp
        | some ob =>
          cases ob with
          | cells c t fr =>
            cases asp with
            | some q => simp
            | none =>
              simp only [if_true, Option.map_some, Option.isSome_none, Bool.false_eq_true, if_false, Array.getElem?_setIfInBounds]
              by_cases h2 : o = ao
              · subst h2
                by_cases h3 : o < c.size
                · simp [h3]
                · simp [h3]
              · simp [h2]
          | _ => simp
      · rw [if_neg h]
  unfold cellsN
  simp only [hc]
  split <;> rfl
@[go_sem] theorem setCells_frozenN (w : World) (b o : Nat) (vs : List Value) (b' o' n : Nat) : frozenN (w.setCells b o vs) b' o' n = frozenN w b' o' n := by
  have hc : ∀ (vs : List Value) (o : Nat) (w : World) (a : Addr), (w.setCells b o vs).frozen? a = w.frozen? a := by
    intro vs
    induction vs with
    | nil => intro o w a; rfl
    | cons v r ih =>
      intro o w a
      unfold World.setCells
      rw [ih]
      obtain ⟨ab, ao, asp⟩ := a
      simp only [World.frozen?, World.setCell, Array.getElem?_modify]
      by_cases h : b = ab
      · subst h
        cases hb : w.heap[b]? with
        | none => simp
        | some ob => cases ob <;> simp
      · rw [if_neg h]
  unfold frozenN
  simp only [hc]
/-! ### Backwards -/
/-- Behind i swaps. -/
structure Turned (l m : List α) (i : Nat) : Prop where
  len : m.length = l.length
  get : ∀ q, q < l.length → m[q]? = if q < i ∨ l.length ≤ q + i then l[l.length - 1 - q]? else l[q]?
theorem turned_start (l : List α) : Turned l l 0 := ⟨rfl, fun q hq => by rw [if_neg (by omega)]⟩
theorem turned_step {l m : List α} {i j : Nat} {a b : α} (h : Turned l m i) (hj : j = l.length - 1 - i) (hij : i < j) (ha : m[i]? = some a) (hb : m[j]? = some b) : Turned l ((m.set i b).set j a) (i + 1) := by
  subst hj
  have hl := h.len
  refine ⟨by simp [hl], fun q hq => ?_⟩
  have e1 := h.get i (by omega)
  have e2 := h.get (l.length - 1 - i) (by omega)
  rw [if_neg (by omega)] at e1 e2
  by_cases h1 : q = l.length - 1 - i
  · subst h1
    rw [List.getElem?_set_self (by simp; omega), if_pos (by omega), show l.length - 1 - (l.length - 1 - i) = i by omega, ← e1, ha]
  · rw [List.getElem?_set_ne (Ne.symm h1)]
    by_cases h2 : q = i
    · subst h2
      rw [List.getElem?_set_self (by omega), if_pos (by omega), ← e2, hb]
    · rw [List.getElem?_set_ne (Ne.symm h2), h.get q hq]
      by_cases h3 : q < i ∨ l.length ≤ q + i
      · rw [if_pos h3, if_pos (by omega)]
      · rw [if_neg h3, if_neg (by omega)]
theorem turned_end {l m : List α} {i : Nat} (h : Turned l m i) (hi : l.length ≤ 2 * i + 1) : m = l.reverse := by
  apply List.ext_getElem?
  intro q
  by_cases hq : q < l.length
  · rw [h.get q hq, List.getElem?_reverse hq]
    by_cases h3 : q < i ∨ l.length ≤ q + i
    · rw [if_pos h3]
    · rw [if_neg h3, show l.length - 1 - q = q by omega]
  · rw [List.getElem?_eq_none (by rw [h.len]; omega), List.getElem?_eq_none (by simp; omega)]
end
end Go.Proofs.Ytdohohafdplkiaa

/- append onto a row of the call's own, whatever its elements, and where it lies then. Over whatever program. -/
set_option linter.unusedSimpArgs false
set_option linter.unusedVariables false
set_option maxRecDepth 20000
namespace Go.Proofs.Ytdohohafdplkiaa
open Go.RowKit
theorem setCell_heap {w : World} {b o : Nat} (v : Value) {k : Nat} (h : k ≠ b) : (w.setCell ⟨b, o, none⟩ v).heap[k]? = w.heap[k]? := by
  simp only [World.setCell, Array.getElem?_modify]
  rw [if_neg (by simpa using Ne.symm h)]
theorem setCell_block {w : World} {b o : Nat} {cs : Array Value} {t : TypeId} {fr : Nat × Nat} (v : Value) (h : w.heap[b]? = some (.cells cs t fr)) : (w.setCell ⟨b, o, none⟩ v).heap[b]? = some (.cells (cs.setIfInBounds o v) t fr) := by
  simp [World.setCell, Array.getElem?_modify, h]
theorem block_cell {w : World} {b o : Nat} {cs : Array Value} {t : TypeId} {v : Value} (h : w.heap[b]? = some (.cells cs t (0, 0))) (hv : cs[o]? = some v) : w.cell? ⟨b, o, none⟩ = some v ∧ w.frozen? ⟨b, o, none⟩ = false := by
  refine ⟨?_, ?_⟩
  · rw [cell_of_row w b o cs t (0, 0) h]; exact hv
  · simp [World.frozen?, h]
theorem block_cells {w : World} {b n : Nat} {cs : Array Value} {t : TypeId} (h : w.heap[b]? = some (.cells cs t (0, 0))) (hn : cs.size = n) : cellsN w b 0 n = some cs ∧ frozenN w b 0 n = false := by
  subst hn
  refine ⟨cellsN_some.2 ⟨rfl, fun j hj => ?_⟩, frozenN_false.2 fun j hj => ?_⟩
  · rw [Nat.zero_add, cell_of_row w b j cs t (0, 0) h]
  · simp [World.frozen?, h]
/-- What holds behind appends onto v, which has become v'. -/
structure Apd (w w' : World) (v v' : Value) : Prop where
  os : w'.os = w.os
  tape : w'.tape = w.tape
  output : w'.output = w.output
  size : w.heap.size ≤ w'.heap.size
  block : ∀ k, k < w.heap.size → v.ownBlock ≠ some k → w'.heap[k]? = w.heap[k]?
  own : v'.ownBlock = v.ownBlock ∨ ∃ g, v'.ownBlock = some g ∧ w.heap.size ≤ g
theorem Apd.ofEx {w w' : World} (k : Ex w w') (v : Value) : Apd w w' v v := by
  obtain ⟨X, rfl⟩ := k
  exact ⟨rfl, rfl, rfl, by rw [wx_size]; omega, fun k hk _ => wx_heap w X k hk, Or.inl rfl⟩
theorem Apd.trans {a b c : World} {u v x : Value} (h : Apd a b u v) (k : Apd b c v x) : Apd a c u x := by
  refine ⟨k.os.trans h.os, k.tape.trans h.tape, k.output.trans h.output, Nat.le_trans h.size k.size, fun i hi hu => ?_, ?_⟩
  · rw [k.block i (Nat.lt_of_lt_of_le hi h.size) fun e => ?_, h.block i hi hu]
    rcases h.own with h1 | ⟨g, h1, h2⟩
    · exact hu (h1 ▸ e)
    · rw [h1] at e
      have := Option.some.inj e
      omega
  · rcases k.own with h1 | ⟨g, h1, h2⟩
    · rcases h.own with h3 | ⟨g, h3, h4⟩
      · exact Or.inl (h1.trans h3)
      · exact Or.inr ⟨g, h1.trans h3, h4⟩
    · have := h.size
      exact Or.inr ⟨g, h1, by omega⟩
theorem Apd.below {w w' : World} {v v' : Value} (h : Apd w w' v v') {Z : Nat} (hZ : Z ≤ w.heap.size) (hv : ∀ g, v.ownBlock = some g → Z ≤ g) : Below Z w w' :=
  ⟨h.os, h.tape, h.output, h.size, fun k hk => h.block k (by omega) fun e => by have := hv k e; omega⟩
theorem apd_none {P : Program} {t ty e : TypeId} {i : TypeInfo} (ht : P.underlying t = some (.slice e)) (hi : P.info? e = some i) (a : Option Addr) (n c : Nat) (hn : n ≤ c) (w : World) :
    (Builtin.append_ #[t, t] ty #[.slice a n c, .slice none 0 0]).run P w = .ok (.slice a n c) w := by
  cases a with
  | none => simp [Builtin.append_, run_underlying ht, sizeOf, typeInfo, hi, Builtin.lenOf, Builtin.firstCells, hn]
  | some ad => simp [Builtin.append_, run_underlying ht, sizeOf, typeInfo, hi, Builtin.lenOf, Builtin.firstCells, hn, storeCells]
theorem wpApd {P : Program} {t e : TypeId} {size bytes : Nat} {z : Value} (T : AppT P t e size bytes z) {ops : Array Oper} {rest : List Oper} {o : Oper} {a : Act} {w : World} {Q : Exit → Act → World → Prop} (s x : Operand) (hgd : o.guard = none)
    (ho : o.op = .call { callee := .builtin .append, args := #[s, x], argTypes := #[t, t] })
    {B : Nat} {v : Value} {n : Nat} {xs : List Value} (hown : w.ownsRow B e size v n xs) (hs : a.eval s = v)
    (ad : Addr) (m c : Nat) (news : List Value) (hx : a.eval x = .slice (some ad) m c) (hl : news.length = m * size) (hnews : ∀ j u, news[j]? = some u → w.cell? (ad.add j) = some u) (h1 : ∀ u ∈ news, u.oneCell' = true)
    (h63 : n + m ≤ maxLen) (hbytes : (n + m) * bytes ≤ 140737488355328) (hbase : B ≤ w.heap.size)
    (h : ∀ v' w', w'.ownsRow B e size v' (n + m) (xs ++ news) → Apd w w' v v' → wpList P ops Q rest (a.put o.dst v') w') : wpList P ops Q (o :: rest) a w := by
  obtain ⟨i, hi, h1', h2', h3'⟩ := info_parts T.hi
  refine wpList_append_own_at w hgd s x _ ho B _ i _ _ _ T.ht hi h1' h2' h3' T.hzs T.hsz v _ _ hs hown ad m c news hx hl hnews h1 h63 hbytes hbase fun v' w' k1 k2 _ k3 => ?_
  refine h v' w' k1 ⟨k2.os, k2.tape, k2.output, k2.size, fun k hk hne => k2.block k hk (fun e => hne e.symm), ?_⟩
  rcases k3 with k3 | k3
  · exact Or.inl k3
  · exact Or.inr ⟨_, k3, Nat.le_refl _⟩
theorem wpApdNone {P : Program} {t e : TypeId} {size bytes : Nat} {z : Value} (T : AppT P t e size bytes z) {ops : Array Oper} {rest : List Oper} {o : Oper} {a : Act} {w : World} {Q : Exit → Act → World → Prop} (s x : Operand) (hgd : o.guard = none)
    (ho : o.op = .call { callee := .builtin .append, args := #[s, x], argTypes := #[t, t] })
    {ad : Option Addr} {n c : Nat} (hn : n ≤ c) (hs : a.eval s = .slice ad n c) (hx : a.eval x = .slice none 0 0)
    (h : wpList P ops Q rest (a.put o.dst (.slice ad n c)) w) : wpList P ops Q (o :: rest) a w := by
  obtain ⟨i, hi, h1', h2', h3'⟩ := info_parts T.hi
  have hrun := apd_none (P := P) (ty := o.type) T.ht hi ad n c hn w
  refine wpList_plain hgd fun K hK => ?_
  unfold Oper.wp execOp
  simp only [ho, resolve, invoke, builtin, Sem.run_bind, Sem.run_pure, Result.andThen_ok, List.map_toArray, List.map_cons, List.map_nil, hs, hx]
  rw [hrun]
  exact hK _ _ h
end Go.Proofs.Ytdohohafdplkiaa
