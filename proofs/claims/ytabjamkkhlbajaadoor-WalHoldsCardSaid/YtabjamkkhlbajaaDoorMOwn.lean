import Derived.Test.YtabjamkkhlbajaaDoorMMem
import Derived.Lib.Hide
import Derived.Maps.AppendAt

/- Rows of the call's own whose elements are turned in place. Over whatever program. -/
set_option linter.unusedSimpArgs false
set_option linter.unusedVariables false
set_option maxRecDepth 20000
namespace Go.Proofs.YtabjamkkhlbajaaDoor
open Go.RowKit
section
variable {P : Program} {α : Type} {K : α → List Value} {s : Nat}
theorem flat_len (hK : ∀ a, (K a).length = s) : ∀ l : List α, (l.flatMap K).length = l.length * s
  | [] => by simp
  | a :: l => by rw [List.flatMap_cons, List.length_append, flat_len hK l, hK, List.length_cons, Nat.succ_mul, Nat.add_comm]
theorem flat_get (hK : ∀ a, (K a).length = s) : ∀ (l : List α) (i : Nat) (a : α) (j : Nat), l[i]? = some a → j < s → (l.flatMap K)[i * s + j]? = (K a)[j]?
  | [], i, a, j, h, _ => by simp at h
  | b :: l, 0, a, j, h, hj => by
    have : b = a := by simpa using h
    subst this
    rw [List.flatMap_cons, Nat.zero_mul, Nat.zero_add, List.getElem?_append_left (by rw [hK]; exact hj)]
  | b :: l, i + 1, a, j, h, hj => by
    have h2 : l[i]? = some a := by simpa using h
    rw [List.flatMap_cons, List.getElem?_append_right (by rw [hK, Nat.succ_mul]; omega), hK, Nat.succ_mul, show i * s + s + j - s = i * s + j by omega]
    exact flat_get hK l i a j h2 hj
theorem setCells_heap (b : Nat) : ∀ (vs : List Value) (o : Nat) (w : World) (k : Nat), k ≠ b → (w.setCells b o vs).heap[k]? = w.heap[k]?
  | [], _, _, _, _ => rfl
  | v :: r, o, w, k, h => by
    unfold World.setCells
    rw [setCells_heap b r (o + 1) _ k h]
    simp only [World.setCell, Array.getElem?_modify]
    rw [if_neg (by simpa using Ne.symm h)]
theorem setCells_block (b : Nat) (t : TypeId) (fr : Nat × Nat) : ∀ (vs : List Value) (o : Nat) (w : World) (c : Array Value), w.heap[b]? = some (.cells c t fr) → (w.setCells b o vs).heap[b]? = some (.cells (spliceA c o vs) t fr)
  | [], _, _, _, h => h
  | v :: r, o, w, c, h => by
    unfold World.setCells
    rw [setCells_block b t fr r (o + 1) _ (c.setIfInBounds o v) (by simp [World.setCell, Array.getElem?_modify, h])]
    rfl
theorem setCells_below {Z b : Nat} (hb : Z ≤ b) : ∀ (vs : List Value) (o : Nat) (w : World), Below Z w (w.setCells b o vs)
  | [], _, w => Below.refl Z w
  | v :: r, o, w => by
    unfold World.setCells
    exact ((Below.refl Z w).setCell (p := ⟨b, o, none⟩) hb v).trans (setCells_below hb r (o + 1) _)
/-- The row lies in one block. -/
theorem own_block {w : World} {Z : Nat} {t : TypeId} {v : Value} {n : Nat} {xs : List Value} (h : w.ownsRow Z t s v n xs) (hn : 0 < n) (hs : 0 < s) :
    ∃ g cap cur, v = .slice (some ⟨g, 0, none⟩) n cap ∧ Z ≤ g ∧ w.heap[g]? = some (.cells cur t (0, 0)) ∧ n ≤ cap ∧ cap ≤ maxLen ∧ cur.size = cap * s ∧ cur.toList.take (n * s) = xs := by
  rcases h.2 with ⟨_, h0⟩ | ⟨g, cap, cur, h⟩
  · omega
  · exact ⟨g, cap, cur, h⟩
theorem own_at (hK : ∀ a, (K a).length = s) {w : World} {Z g n cap : Nat} {t : TypeId} {l : List α} (h : w.ownsRow Z t s (.slice (some ⟨g, 0, none⟩) n cap) n (l.flatMap K)) {i : Nat} {a : α} (hi : l[i]? = some a) :
    cellsN w g (i * s) s = some (K a).toArray ∧ frozenN w g (i * s) s = false ∧ Z ≤ g ∧ g < w.heap.size := by
  have hlt := h.lt g rfl
  refine ⟨cellsN_some.2 ⟨by simp [hK], fun j hj => ?_⟩, frozenN_false.2 fun j hj => ?_, hlt⟩
  · have h1 := flat_get hK l i a j hi hj
    rw [List.getElem?_toArray]
    have h2 : (K a)[j]? = some ((K a)[j]'(by rw [hK]; exact hj)) := List.getElem?_eq_getElem _
    rw [h2] at h1 ⊢
    have := h.cells (g := g) rfl _ _ h1
    have hadd : (⟨g, 0, none⟩ : Addr).add (i * s + j) = ⟨g, i * s + j, none⟩ := by unfold Addr.add; split <;> simp_all
    rwa [hadd] at this
  · rcases h.2 with ⟨hv, _⟩ | ⟨g', cap', cur, hv, _, hb, _⟩
    · cases hv
    · cases hv
      simp [World.frozen?, hb]
/-- One element turned. -/
theorem own_set (hK : ∀ a, (K a).length = s) (hs : 0 < s) {w : World} {Z g n cap : Nat} {t : TypeId} {l : List α} (h : w.ownsRow Z t s (.slice (some ⟨g, 0, none⟩) n cap) n (l.flatMap K)) {i : Nat} (a : α) (hi : i < l.length) :
    (w.setCells g (i * s) (K a)).ownsRow Z t s (.slice (some ⟨g, 0, none⟩) n cap) n ((l.set i a).flatMap K) ∧ Below Z w (w.setCells g (i * s) (K a)) := by
  have hlen : l.length = n := by
    have h1 := h.1
    rw [flat_len hK] at h1
    exact Nat.eq_of_mul_eq_mul_right hs h1
  rcases h.2 with ⟨hv, _⟩ | ⟨g', cap', cur, hv, h1, hb, h3, h4, h5, h6⟩
  · cases hv
  · cases hv
    refine ⟨⟨by rw [flat_len hK, List.length_set, hlen], Or.inr ⟨g, cap, spliceA cur (i * s) (K a), rfl, h1, setCells_block _ _ _ _ _ _ _ hb, h3, h4, ?_, ?_⟩⟩, setCells_below h1 _ _ _⟩
    · have : ∀ (vs : List Value) (o : Nat) (c : Array Value), (spliceA c o vs).size = c.size := by
        intro vs
        induction vs with
        | nil => intro o c; rfl
        | cons v r ih =>
          intro o c
          show (spliceA (c.setIfInBounds o v) (o + 1) r).size = _
          rw [ih]; simp
      rw [this, h5]
    · apply List.ext_getElem?
      intro q
      rw [List.getElem?_take]
      have hq0 : q = q / s * s + q % s := by rw [Nat.mul_comm]; exact (Nat.div_add_mod q s).symm
      have hqs := Nat.mod_lt q hs
      generalize q / s = e at hq0
      generalize q % s = j at hq0 hqs
      subst hq0
      by_cases hn : e < n
      · have hin : e * s + j < n * s := by
          have := Nat.mul_le_mul_right s (show e + 1 ≤ n by omega)
          rw [Nat.succ_mul] at this; omega
        have hncap := Nat.mul_le_mul_right s h3
        rw [if_pos hin, Array.getElem?_toList, spliceA_get]
        have hold : cur[e * s + j]? = (l.flatMap K)[e * s + j]? := by
          rw [← h6, List.getElem?_take, if_pos hin, Array.getElem?_toList]
        by_cases hei : e = i
        · subst hei
          rw [if_pos ⟨by omega, by rw [hK]; omega, by rw [h5]; omega⟩, flat_get hK _ e a j (by rw [List.getElem?_set_self (by omega)]) hqs, Nat.add_sub_cancel_left]
        · have hne : ¬ (i * s ≤ e * s + j ∧ e * s + j < i * s + (K a).length ∧ e * s + j < cur.size) := by
            rw [hK]
            rintro ⟨k1, k2, _⟩
            rcases Nat.lt_or_gt_of_ne hei with h | h
            · have := Nat.mul_le_mul_right s (show e + 1 ≤ i by omega)
              rw [Nat.succ_mul] at this; omega
            · have := Nat.mul_le_mul_right s (show i + 1 ≤ e by omega)
              rw [Nat.succ_mul] at this; omega
          rw [if_neg hne, hold]
          have hle : e < l.length := by omega
          rw [flat_get hK l e l[e] j (List.getElem?_eq_getElem hle) hqs, flat_get hK (l.set i a) e l[e] j (by rw [List.getElem?_set_ne (Ne.symm hei), List.getElem?_eq_getElem hle]) hqs]
      · have hin : ¬ e * s + j < n * s := by
          have := Nat.mul_le_mul_right s (show n ≤ e by omega)
          omega
        rw [if_neg hin, List.getElem?_eq_none]
        rw [flat_len hK, List.length_set, hlen]; omega
@[go_sem] theorem setCells_isSome (w : World) (b o : Nat) (vs : List Value) (b' o' n : Nat) : (cellsN (w.setCells b o vs) b' o' n).isSome = (cellsN w b' o' n).isSome := by
  have hc : ∀ (vs : List Value) (o : Nat) (w : World) (a : Addr), ((w.setCells b o vs).cell? a).isSome = (w.cell? a).isSome := by
    intro vs
    induction vs with
    | nil => intro o w a; rfl
    | cons v r ih =>
      intro o w a
      unfold World.setCells
      rw [ih]
      obtain ⟨ab, ao, asp⟩ := a
      simp only [World.cell?, World.setCell, Array.getElem?_modify]
      by_cases h : b = ab
      · subst h
        cases hb : w.heap[b]? with
        | none => simp
        | some ob =>
          cases ob with
          | cells c t fr =>
            cases asp with
            | some q => simp
            | none =>
              simp only [if_true, Option.map_some, Option.isSome_none, Bool.false_eq_true, if_false, Array.getElem?_setIfInBounds]
              by_cases h2 : o = ao
              · subst h2
                by_cases h3 : o < c.size
                · simp [h3]
                · simp [h3]
              · simp [h2]
          | _ => simp
      · rw [if_neg h]
  unfold cellsN
  simp only [hc]
  split <;> rfl
@[go_sem] theorem setCells_frozenN (w : World) (b o : Nat) (vs : List Value) (b' o' n : Nat) : frozenN (w.setCells b o vs) b' o' n = frozenN w b' o' n := by
  have hc : ∀ (vs : List Value) (o : Nat) (w : World) (a : Addr), (w.setCells b o vs).frozen? a = w.frozen? a := by
    intro vs
    induction vs with
    | nil => intro o w a; rfl
    | cons v r ih =>
      intro o w a
      unfold World.setCells
      rw [ih]
      obtain ⟨ab, ao, asp⟩ := a
      simp only [World.frozen?, World.setCell, Array.getElem?_modify]
      by_cases h : b = ab
      · subst h
        cases hb : w.heap[b]? with
        | none => simp
        | some ob => cases ob <;> simp
      · rw [if_neg h]
  unfold frozenN
  simp only [hc]
/-! ### Backwards -/
end
end Go.Proofs.YtabjamkkhlbajaaDoor

/- append onto a row of the call's own, whatever its elements, and where it lies then. Over whatever program. -/
set_option linter.unusedSimpArgs false
set_option linter.unusedVariables false
set_option maxRecDepth 20000
namespace Go.Proofs.YtabjamkkhlbajaaDoor
open Go.RowKit
theorem setCell_heap {w : World} {b o : Nat} (v : Value) {k : Nat} (h : k ≠ b) : (w.setCell ⟨b, o, none⟩ v).heap[k]? = w.heap[k]? := by
  simp only [World.setCell, Array.getElem?_modify]
  rw [if_neg (by simpa using Ne.symm h)]
theorem setCell_block {w : World} {b o : Nat} {cs : Array Value} {t : TypeId} {fr : Nat × Nat} (v : Value) (h : w.heap[b]? = some (.cells cs t fr)) : (w.setCell ⟨b, o, none⟩ v).heap[b]? = some (.cells (cs.setIfInBounds o v) t fr) := by
  simp [World.setCell, Array.getElem?_modify, h]
theorem block_cell {w : World} {b o : Nat} {cs : Array Value} {t : TypeId} {v : Value} (h : w.heap[b]? = some (.cells cs t (0, 0))) (hv : cs[o]? = some v) : w.cell? ⟨b, o, none⟩ = some v ∧ w.frozen? ⟨b, o, none⟩ = false := by
  refine ⟨?_, ?_⟩
  · rw [cell_of_row w b o cs t (0, 0) h]; exact hv
  · simp [World.frozen?, h]
theorem block_cells {w : World} {b n : Nat} {cs : Array Value} {t : TypeId} (h : w.heap[b]? = some (.cells cs t (0, 0))) (hn : cs.size = n) : cellsN w b 0 n = some cs ∧ frozenN w b 0 n = false := by
  subst hn
  refine ⟨cellsN_some.2 ⟨rfl, fun j hj => ?_⟩, frozenN_false.2 fun j hj => ?_⟩
  · rw [Nat.zero_add, cell_of_row w b j cs t (0, 0) h]
  · simp [World.frozen?, h]
/-- What holds behind appends onto v, which has become v'. -/
structure Apd (w w' : World) (v v' : Value) : Prop where
  os : w'.os = w.os
  tape : w'.tape = w.tape
  output : w'.output = w.output
  size : w.heap.size ≤ w'.heap.size
  block : ∀ k, k < w.heap.size → v.ownBlock ≠ some k → w'.heap[k]? = w.heap[k]?
  own : v'.ownBlock = v.ownBlock ∨ ∃ g, v'.ownBlock = some g ∧ w.heap.size ≤ g
theorem Apd.ofEx {w w' : World} (k : Ex w w') (v : Value) : Apd w w' v v := by
  obtain ⟨X, rfl⟩ := k
  exact ⟨rfl, rfl, rfl, by rw [wx_size]; omega, fun k hk _ => wx_heap w X k hk, Or.inl rfl⟩
theorem Apd.trans {a b c : World} {u v x : Value} (h : Apd a b u v) (k : Apd b c v x) : Apd a c u x := by
  refine ⟨k.os.trans h.os, k.tape.trans h.tape, k.output.trans h.output, Nat.le_trans h.size k.size, fun i hi hu => ?_, ?_⟩
  · rw [k.block i (Nat.lt_of_lt_of_le hi h.size) fun e => ?_, h.block i hi hu]
    rcases h.own with h1 | ⟨g, h1, h2⟩
    · exact hu (h1 ▸ e)
    · rw [h1] at e
      have := Option.some.inj e
      omega
  · rcases k.own with h1 | ⟨g, h1, h2⟩
    · rcases h.own with h3 | ⟨g, h3, h4⟩
      · exact Or.inl (h1.trans h3)
      · exact Or.inr ⟨g, h1.trans h3, h4⟩
    · have := h.size
      exact Or.inr ⟨g, h1, by omega⟩
theorem Apd.below {w w' : World} {v v' : Value} (h : Apd w w' v v') {Z : Nat} (hZ : Z ≤ w.heap.size) (hv : ∀ g, v.ownBlock = some g → Z ≤ g) : Below Z w w' :=
  ⟨h.os, h.tape, h.output, h.size, fun k hk => h.block k (by omega) fun e => by have := hv k e; omega⟩
theorem wpApd {P : Program} {t e : TypeId} {size bytes : Nat} {z : Value} (T : AppT P t e size bytes z) {ops : Array Oper} {rest : List Oper} {o : Oper} {a : Act} {w : World} {Q : Exit → Act → World → Prop} (s x : Operand) (hgd : o.guard = none)
    (ho : o.op = .call { callee := .builtin .append, args := #[s, x], argTypes := #[t, t] })
    {B : Nat} {v : Value} {n : Nat} {xs : List Value} (hown : w.ownsRow B e size v n xs) (hs : a.eval s = v)
    (ad : Addr) (m c : Nat) (news : List Value) (hx : a.eval x = .slice (some ad) m c) (hl : news.length = m * size) (hnews : ∀ j u, news[j]? = some u → w.cell? (ad.add j) = some u) (h1 : ∀ u ∈ news, u.oneCell' = true)
    (h63 : n + m ≤ maxLen) (hbytes : (n + m) * bytes ≤ 140737488355328) (hbase : B ≤ w.heap.size)
    (h : ∀ v' w', w'.ownsRow B e size v' (n + m) (xs ++ news) → Apd w w' v v' → wpList P ops Q rest (a.put o.dst v') w') : wpList P ops Q (o :: rest) a w := by
  obtain ⟨i, hi, h1', h2', h3'⟩ := info_parts T.hi
  refine wpList_append_own_at w hgd s x _ ho B _ i _ _ _ T.ht hi h1' h2' h3' T.hzs T.hsz v _ _ hs hown ad m c news hx hl hnews h1 h63 hbytes hbase fun v' w' k1 k2 _ k3 => ?_
  refine h v' w' k1 ⟨k2.os, k2.tape, k2.output, k2.size, fun k hk hne => k2.block k hk (fun e => hne e.symm), ?_⟩
  rcases k3 with k3 | k3
  · exact Or.inl k3
  · exact Or.inr ⟨_, k3, Nat.le_refl _⟩
end Go.Proofs.YtabjamkkhlbajaaDoor

/- Slices that read as lists, whatever their elements. Over whatever program. -/
set_option linter.unusedSimpArgs false
set_option linter.unusedVariables false
set_option maxRecDepth 20000
namespace Go.Proofs.YtabjamkkhlbajaaDoor
open Go.RowKit
section
variable {α : Type} {K : α → List Value} {s : Nat}
/-- A slice that reads as a list. -/
structure SlR (K : α → List Value) (s : Nat) (w : World) (a : Option Addr) (l : List α) : Prop where
  out : l = [] ∨ ∃ g off, a = some ⟨g, off, none⟩ ∧ g < w.heap.size ∧ ∀ i d, l[i]? = some d → cellsN w g (off + i * s) s = some (K d).toArray
theorem SlR.nil (K : α → List Value) (s : Nat) (w : World) (a : Option Addr) : SlR K s w a [] := ⟨Or.inl rfl⟩
theorem SlR.pos {w : World} {a : Option Addr} {l : List α} (h : SlR K s w a l) (hn : 0 < l.length) : ∃ g off, a = some ⟨g, off, none⟩ ∧ g < w.heap.size ∧ ∀ i d, l[i]? = some d → cellsN w g (off + i * s) s = some (K d).toArray := by
  rcases h.out with rfl | h
  · simp at hn
  · exact h
theorem cellsN_same {w w' : World} {g : Nat} (k : w'.heap[g]? = w.heap[g]?) (o n : Nat) : cellsN w' g o n = cellsN w g o n := cellsN_congr fun j _ => by simp only [World.cell?, k]
theorem SlR.keep {w w' : World} {a : Option Addr} {l : List α} (h : SlR K s w a l) (hz : w.heap.size ≤ w'.heap.size) (k : ∀ g n c, (Value.slice a n c).ownBlock = some g → w'.heap[g]? = w.heap[g]?) : SlR K s w' a l := by
  rcases h.out with h | ⟨g, off, rfl, h2, h3⟩
  · exact ⟨Or.inl h⟩
  · exact ⟨Or.inr ⟨g, off, rfl, Nat.lt_of_lt_of_le h2 hz, fun i d hd => (cellsN_same (k g 0 0 rfl) _ _).trans (h3 i d hd)⟩⟩
theorem SlR.ex {w w' : World} {a : Option Addr} {l : List α} (h : SlR K s w a l) (k : Ex w w') : SlR K s w' a l := by
  rcases h.out with h | ⟨g, off, rfl, h2, h3⟩
  · exact ⟨Or.inl h⟩
  · exact ⟨Or.inr ⟨g, off, rfl, Nat.lt_of_lt_of_le h2 (ex_size k), fun i d hd => (cellsN_same ((ex_below k).block g h2) _ _).trans (h3 i d hd)⟩⟩
theorem SlR.take {w : World} {a : Option Addr} {l : List α} (h : SlR K s w a l) (k : Nat) : SlR K s w a (l.take k) := by
  rcases h.out with rfl | ⟨g, off, h1, h2, h3⟩
  · exact ⟨Or.inl (by simp)⟩
  · refine ⟨Or.inr ⟨g, off, h1, h2, fun i d hd => ?_⟩⟩
    rw [List.getElem?_take] at hd
    split at hd
    · exact h3 i d hd
    · cases hd
theorem SlR.drop {w : World} {g off : Nat} {l : List α} (h : SlR K s w (some ⟨g, off, none⟩) l) (k : Nat) : SlR K s w (some ⟨g, off + k * s, none⟩) (l.drop k) := by
  rcases h.out with rfl | ⟨g', off', h1, h2, h3⟩
  · exact ⟨Or.inl (by simp)⟩
  · cases h1
    refine ⟨Or.inr ⟨g, _, rfl, h2, fun i d hd => ?_⟩⟩
    rw [List.getElem?_drop] at hd
    rw [Nat.add_assoc, ← Nat.add_mul]
    exact h3 _ d hd
theorem SlR.at {w : World} {g off : Nat} {l : List α} (h : SlR K s w (some ⟨g, off, none⟩) l) {i : Nat} {d : α} (hd : l[i]? = some d) : cellsN w g (off + i * s) s = some (K d).toArray ∧ g < w.heap.size := by
  rcases h.out with rfl | ⟨g', off', h1, h2, h3⟩
  · simp at hd
  · cases h1; exact ⟨h3 i d hd, h2⟩
/-- An own row reads so. -/
theorem SlR.of_own (hK : ∀ a, (K a).length = s) (hs : 0 < s) {w : World} {Z : Nat} {t : TypeId} {a : Option Addr} {c : Nat} {l : List α} {n : Nat} (h : w.ownsRow Z t s (.slice a n c) l.length (l.flatMap K)) : SlR K s w a l := by
  rcases Nat.eq_zero_or_pos l.length with h0 | hpos
  · rw [List.eq_nil_of_length_eq_zero h0]; exact SlR.nil _ _ _ _
  · obtain ⟨g, cap, cur, hv, _⟩ := own_block h hpos hs
    obtain ⟨rfl, rfl, rfl⟩ : a = some ⟨g, 0, none⟩ ∧ n = l.length ∧ c = cap := by simpa using hv
    refine ⟨Or.inr ⟨g, 0, rfl, (h.lt g rfl).2, fun i d hd => ?_⟩⟩
    rw [Nat.zero_add]
    exact (own_at hK h hd).1
/-- What is laid behind a row. -/
theorem SlR.news (hK : ∀ a, (K a).length = s) (hs : 0 < s) {w : World} {ad : Addr} {r : List α} (h : SlR K s w (some ad) r) : ∀ (j : Nat) (u : Value), (r.flatMap K)[j]? = some u → w.cell? (ad.add j) = some u := by
  intro j u hj
  rcases h.out with rfl | ⟨g, off, hg, _, _⟩
  · simp at hj
  · obtain rfl : ad = ⟨g, off, none⟩ := Option.some.inj hg
    have hlt : j < r.length * s := by
      have := (List.getElem?_eq_some_iff.1 hj).1
      rwa [flat_len hK] at this
    have hadd : (⟨g, off, none⟩ : Addr).add j = ⟨g, off + j, none⟩ := by unfold Addr.add; split <;> simp_all
    have hq0 : j = j / s * s + j % s := by rw [Nat.mul_comm]; exact (Nat.div_add_mod j s).symm
    have hqs := Nat.mod_lt j hs
    have hql : j / s < r.length := (Nat.div_lt_iff_lt_mul hs).2 hlt
    generalize j / s = e at hq0 hql
    generalize j % s = q at hq0 hqs
    subst hq0
    have hi : r[e]? = some r[e] := List.getElem?_eq_getElem _
    have h1 := (h.at hi).1
    have h2 := flat_get hK r e _ q hi hqs
    have h3 := (cellsN_some.1 h1).2 q hqs
    rw [hadd, ← Nat.add_assoc, h3, List.getElem?_toArray, ← h2, hj]
/-- A slice, as a value. -/
structure SlV1 (K : α → List Value) (s : Nat) (w : World) (v : Value) (l : List α) : Prop where
  out : ∃ a c, v = .slice a l.length c ∧ l.length ≤ c ∧ c ≤ maxLen ∧ (a = none → c = 0) ∧ SlR K s w a l
theorem SlV1.ex {w w' : World} {v : Value} {l : List α} (h : SlV1 K s w v l) (k : Ex w w') : SlV1 K s w' v l := by
  obtain ⟨a, c, h1, h2, h3, h4, h5⟩ := h.out
  exact ⟨a, c, h1, h2, h3, h4, h5.ex k⟩
theorem SlV1.keep {w w' : World} {v : Value} {l : List α} (h : SlV1 K s w v l) (hz : w.heap.size ≤ w'.heap.size) (k : ∀ g, v.ownBlock = some g → w'.heap[g]? = w.heap[g]?) : SlV1 K s w' v l := by
  obtain ⟨a, c, rfl, h2, h3, h4, h5⟩ := h.out
  refine ⟨a, c, rfl, h2, h3, h4, h5.keep hz fun g n c' hg => k g ?_⟩
  cases a with
  | none => simp [Value.ownBlock] at hg
  | some ad => simpa [Value.ownBlock] using hg
theorem SlV1.lt {w : World} {v : Value} {l : List α} (h : SlV1 K s w v l) (hn : 0 < l.length) {g : Nat} (hg : v.ownBlock = some g) : g < w.heap.size := by
  obtain ⟨a, c, rfl, _, _, _, h5⟩ := h.out
  obtain ⟨g', off, rfl, hlt, _⟩ := h5.pos hn
  obtain rfl : g' = g := by simpa [Value.ownBlock] using hg
  exact hlt
theorem SlV1.nil (K : α → List Value) (s : Nat) (w : World) : SlV1 K s w (.slice none 0 0) [] := ⟨none, 0, rfl, by simp, by decide, fun _ => rfl, SlR.nil _ _ _ _⟩
theorem SlV1.of_own (hK : ∀ a, (K a).length = s) (hs : 0 < s) {w : World} {Z : Nat} {t : TypeId} {v : Value} {l : List α} (h : w.ownsRow Z t s v l.length (l.flatMap K)) : SlV1 K s w v l := by
  rcases h.2 with ⟨rfl, h0⟩ | ⟨g, cap, cur, rfl, h1, h2, h3, h4, h5, h6⟩
  · rw [List.eq_nil_of_length_eq_zero h0]; exact SlV1.nil _ _ _
  · exact ⟨_, cap, rfl, h3, h4, (fun h => by cases h), SlR.of_own hK hs h⟩
end
end Go.Proofs.YtabjamkkhlbajaaDoor
