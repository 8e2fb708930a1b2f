import Derived.Test.YtcdocklbpfdmeaaDoorMApp
import Derived.Lib.Hide
import Derived.Test.YtcdocklbpfdmeaaDoorMMixR
import Derived.Test.YtcdocklbpfdmeaaDoorMSeq
import Derived.Shelf.RegionOpenPlain

/- Rows of the call's own whose elements are turned in place. Over whatever program. -/
set_option linter.unusedSimpArgs false
set_option linter.unusedVariables false
set_option maxRecDepth 20000
namespace Go.Proofs.YtcdocklbpfdmeaaDoor
open Go.RowKit
section
variable {P : Program} {α : Type} {K : α → List Value} {s : Nat}
theorem flat_len (hK : ∀ a, (K a).length = s) : ∀ l : List α, (l.flatMap K).length = l.length * s
  | [] => by simp
  | a :: l => by rw [List.flatMap_cons, List.length_append, flat_len hK l, hK, List.length_cons, Nat.succ_mul, Nat.add_comm]
theorem flat_get (hK : ∀ a, (K a).length = s) : ∀ (l : List α) (i : Nat) (a : α) (j : Nat), l[i]? = some a → j < s → (l.flatMap K)[i * s + j]? = (K a)[j]?
  | [], i, a, j, h, _ => by simp at h
  | b :: l, 0, a, j, h, hj => by
    have : b = a := by simpa using h
    subst this
    rw [List.flatMap_cons, Nat.zero_mul, Nat.zero_add, List.getElem?_append_left (by rw [hK]; exact hj)]
  | b :: l, i + 1, a, j, h, hj => by
    have h2 : l[i]? = some a := by simpa using h
    rw [List.flatMap_cons, List.getElem?_append_right (by rw [hK, Nat.succ_mul]; omega), hK, Nat.succ_mul, show i * s + s + j - s = i * s + j by omega]
    exact flat_get hK l i a j h2 hj
theorem setCells_heap (b : Nat) : ∀ (vs : List Value) (o : Nat) (w : World) (k : Nat), k ≠ b → (w.setCells b o vs).heap[k]? = w.heap[k]?
  | [], _, _, _, _ => rfl
  | v :: r, o, w, k, h => by
    unfold World.setCells
    rw [setCells_heap b r (o + 1) _ k h]
    simp only [World.setCell, Array.getElem?_modify]
    rw [if_neg (by simpa using Ne.symm h)]
theorem setCells_block (b : Nat) (t : TypeId) (fr : Nat × Nat) : ∀ (vs : List Value) (o : Nat) (w : World) (c : Array Value), w.heap[b]? = some (.cells c t fr) → (w.setCells b o vs).heap[b]? = some (.cells (spliceA c o vs) t fr)
  | [], _, _, _, h => h
  | v :: r, o, w, c, h => by
    unfold World.setCells
    rw [setCells_block b t fr r (o + 1) _ (c.setIfInBounds o v) (by simp [World.setCell, Array.getElem?_modify, h])]
    rfl
theorem setCells_below {Z b : Nat} (hb : Z ≤ b) : ∀ (vs : List Value) (o : Nat) (w : World), Below Z w (w.setCells b o vs)
  | [], _, w => Below.refl Z w
  | v :: r, o, w => by
    unfold World.setCells
    exact ((Below.refl Z w).setCell (p := ⟨b, o, none⟩) hb v).trans (setCells_below hb r (o + 1) _)
/-- The row lies in one block. -/
theorem own_block {w : World} {Z : Nat} {t : TypeId} {v : Value} {n : Nat} {xs : List Value} (h : w.ownsRow Z t s v n xs) (hn : 0 < n) (hs : 0 < s) :
    ∃ g cap cur, v = .slice (some ⟨g, 0, none⟩) n cap ∧ Z ≤ g ∧ w.heap[g]? = some (.cells cur t (0, 0)) ∧ n ≤ cap ∧ cap ≤ maxLen ∧ cur.size = cap * s ∧ cur.toList.take (n * s) = xs := by
  rcases h.2 with ⟨_, h0⟩ | ⟨g, cap, cur, h⟩
  · omega
  · exact ⟨g, cap, cur, h⟩
theorem own_at (hK : ∀ a, (K a).length = s) {w : World} {Z g n cap : Nat} {t : TypeId} {l : List α} (h : w.ownsRow Z t s (.slice (some ⟨g, 0, none⟩) n cap) n (l.flatMap K)) {i : Nat} {a : α} (hi : l[i]? = some a) :
    cellsN w g (i * s) s = some (K a).toArray ∧ frozenN w g (i * s) s = false ∧ Z ≤ g ∧ g < w.heap.size := by
  have hlt := h.lt g rfl
  refine ⟨cellsN_some.2 ⟨by simp [hK], fun j hj => ?_⟩, frozenN_false.2 fun j hj => ?_, hlt⟩
  · have h1 := flat_get hK l i a j hi hj
    rw [List.getElem?_toArray]
    have h2 : (K a)[j]? = some ((K a)[j]'(by rw [hK]; exact hj)) := List.getElem?_eq_getElem _
    rw [h2] at h1 ⊢
    have := h.cells (g := g) rfl _ _ h1
    have hadd : (⟨g, 0, none⟩ : Addr).add (i * s + j) = ⟨g, i * s + j, none⟩ := by unfold Addr.add; split <;> simp_all
    rwa [hadd] at this
  · rcases h.2 with ⟨hv, _⟩ | ⟨g', cap', cur, hv, _, hb, _⟩
    · cases hv
    · cases hv
      simp [World.frozen?, hb]
/-- One element turned. -/
theorem own_set (hK : ∀ a, (K a).length = s) (hs : 0 < s) {w : World} {Z g n cap : Nat} {t : TypeId} {l : List α} (h : w.ownsRow Z t s (.slice (some ⟨g, 0, none⟩) n cap) n (l.flatMap K)) {i : Nat} (a : α) (hi : i < l.length) :
    (w.setCells g (i * s) (K a)).ownsRow Z t s (.slice (some ⟨g, 0, none⟩) n cap) n ((l.set i a).flatMap K) ∧ Below Z w (w.setCells g (i * s) (K a)) := by
  have hlen : l.length = n := by
    have h1 := h.1
    rw [flat_len hK] at h1
    exact Nat.eq_of_mul_eq_mul_right hs h1
  rcases h.2 with ⟨hv, _⟩ | ⟨g', cap', cur, hv, h1, hb, h3, h4, h5, h6⟩
  · cases hv
  · cases hv
    refine ⟨⟨by rw [flat_len hK, List.length_set, hlen], Or.inr ⟨g, cap, spliceA cur (i * s) (K a), rfl, h1, setCells_block _ _ _ _ _ _ _ hb, h3, h4, ?_, ?_⟩⟩, setCells_below h1 _ _ _⟩
    · have : ∀ (vs : List Value) (o : Nat) (c : Array Value), (spliceA c o vs).size = c.size := by
        intro vs
        induction vs with
        | nil => intro o c; rfl
        | cons v r ih =>
          intro o c
          show (spliceA (c.setIfInBounds o v) (o + 1) r).size = _
          rw [ih]; simp
      rw [this, h5]
    · apply List.ext_getElem?
      intro q
      rw [List.getElem?_take]
      have hq0 : q = q / s * s + q % s := by rw [Nat.mul_comm]; exact (Nat.div_add_mod q s).symm
      have hqs := Nat.mod_lt q hs
      generalize q / s = e at hq0
      generalize q % s = j at hq0 hqs
      subst hq0
      by_cases hn : e < n
      · have hin : e * s + j < n * s := by
          have := Nat.mul_le_mul_right s (show e + 1 ≤ n by omega)
          rw [Nat.succ_mul] at this; omega
        have hncap := Nat.mul_le_mul_right s h3
        rw [if_pos hin, Array.getElem?_toList, spliceA_get]
        have hold : cur[e * s + j]? = (l.flatMap K)[e * s + j]? := by
          rw [← h6, List.getElem?_take, if_pos hin, Array.getElem?_toList]
        by_cases hei : e = i
        · subst hei
          rw [if_pos ⟨by omega, by rw [hK]; omega, by rw [h5]; omega⟩, flat_get hK _ e a j (by rw [List.getElem?_set_self (by omega)]) hqs, Nat.add_sub_cancel_left]
        · have hne : ¬ (i * s ≤ e * s + j ∧ e * s + j < i * s + (K a).length ∧ e * s + j < cur.size) := by
            rw [hK]
            rintro ⟨k1, k2, _⟩
            rcases Nat.lt_or_gt_of_ne hei with h | h
            · have := Nat.mul_le_mul_right s (show e + 1 ≤ i by omega)
              rw [Nat.succ_mul] at this; omega
            · have := Nat.mul_le_mul_right s (show i + 1 ≤ e by omega)
              rw [Nat.succ_mul] at this; omega
          rw [if_neg hne, hold]
          have hle : e < l.length := by omega
          rw [flat_get hK l e l[e] j (List.getElem?_eq_getElem hle) hqs, flat_get hK (l.set i a) e l[e] j (by rw [List.getElem?_set_ne (Ne.symm hei), List.getElem?_eq_getElem hle]) hqs]
      · have hin : ¬ e * s + j < n * s := by
          have := Nat.mul_le_mul_right s (show n ≤ e by omega)
          omega
        rw [if_neg hin, List.getElem?_eq_none]
        rw [flat_len hK, List.length_set, hlen]; omega
@[go_sem] theorem setCells_isSome (w : World) (b o : Nat) (vs : List Value) (b' o' n : Nat) : (cellsN (w.setCells b o vs) b' o' n).isSome = (cellsN w b' o' n).isSome := by
  have hc : ∀ (vs : List Value) (o : Nat) (w : World) (a : Addr), ((w.setCells b o vs).cell? a).isSome = (w.cell? a).isSome := by
    intro vs
    induction vs with
    | nil => intro o w a; rfl
    | cons v r ih =>
      intro o w a
      unfold World.setCells
      rw [ih]
      obtain ⟨ab, ao, asp⟩ := a
      simp only [World.cell?, World.setCell, Array.getElem?_modify]
      by_cases h : b = ab
      · subst h
        cases hb : w.heap[b]? with
        | none => simp
        | some ob =>
          cases ob with
          | cells c t fr =>
            cases asp with
            | some q => simp
            | none =>
              simp only [if_true, Option.map_some, Option.isSome_none, Bool.false_eq_true, if_false, Array.getElem?_setIfInBounds]
              by_cases h2 : o = ao
              · subst h2
                by_cases h3 : o < c.size
                · simp [h3]
                · simp [h3]
              · simp [h2]
          | _ => simp
      · rw [if_neg h]
  unfold cellsN
  simp only [hc]
  split <;> rfl
@[go_sem] theorem setCells_frozenN (w : World) (b o : Nat) (vs : List Value) (b' o' n : Nat) : frozenN (w.setCells b o vs) b' o' n = frozenN w b' o' n := by
  have hc : ∀ (vs : List Value) (o : Nat) (w : World) (a : Addr), (w.setCells b o vs).frozen? a = w.frozen? a := by
    intro vs
    induction vs with
    | nil => intro o w a; rfl
    | cons v r ih =>
      intro o w a
      unfold World.setCells
      rw [ih]
      obtain ⟨ab, ao, asp⟩ := a
      simp only [World.frozen?, World.setCell, Array.getElem?_modify]
      by_cases h : b = ab
      · subst h
        cases hb : w.heap[b]? with
        | none => simp
        | some ob => cases ob <;> simp
      · rw [if_neg h]
  unfold frozenN
  simp only [hc]
/-! ### Backwards -/
/-- Behind i swaps. -/
structure Turned (l m : List α) (i : Nat) : Prop where
  len : m.length = l.length
  get : ∀ q, q < l.length → m[q]? = if q < i ∨ l.length ≤ q + i then l[l.length - 1 - q]? else l[q]?
theorem turned_start (l : List α) : Turned l l 0 := ⟨rfl, fun q hq => by rw [if_neg (by omega)]⟩
theorem turned_step {l m : List α} {i j : Nat} {a b : α} (h : Turned l m i) (hj : j = l.length - 1 - i) (hij : i < j) (ha : m[i]? = some a) (hb : m[j]? = some b) : Turned l ((m.set i b).set j a) (i + 1) := by
  subst hj
  have hl := h.len
  refine ⟨by simp [hl], fun q hq => ?_⟩
  have e1 := h.get i (by omega)
  have e2 := h.get (l.length - 1 - i) (by omega)
  rw [if_neg (by omega)] at e1 e2
  by_cases h1 : q = l.length - 1 - i
  · subst h1
    rw [List.getElem?_set_self (by simp; omega), if_pos (by omega), show l.length - 1 - (l.length - 1 - i) = i by omega, ← e1, ha]
  · rw [List.getElem?_set_ne (Ne.symm h1)]
    by_cases h2 : q = i
    · subst h2
      rw [List.getElem?_set_self (by omega), if_pos (by omega), ← e2, hb]
    · rw [List.getElem?_set_ne (Ne.symm h2), h.get q hq]
      by_cases h3 : q < i ∨ l.length ≤ q + i
      · rw [if_pos h3, if_pos (by omega)]
      · rw [if_neg h3, if_neg (by omega)]
theorem turned_end {l m : List α} {i : Nat} (h : Turned l m i) (hi : l.length ≤ 2 * i + 1) : m = l.reverse := by
  apply List.ext_getElem?
  intro q
  by_cases hq : q < l.length
  · rw [h.get q hq, List.getElem?_reverse hq]
    by_cases h3 : q < i ∨ l.length ≤ q + i
    · rw [if_pos h3]
    · rw [if_neg h3, show l.length - 1 - q = q by omega]
  · rw [List.getElem?_eq_none (by rw [h.len]; omega), List.getElem?_eq_none (by simp; omega)]
end
end Go.Proofs.YtcdocklbpfdmeaaDoor

/- slices.Reverse of digests and of bools; own slices of both. -/
set_option linter.unusedSimpArgs false
set_option linter.unusedVariables false
set_option maxRecDepth 20000
namespace Go.Proofs.YtcdocklbpfdmeaaDoor
open Go.RowKit
def KD (d : Dg) : List Value := (rowB 32 (dF d)).toList
def KB (b : Bool) : List Value := [.bool b]
theorem KD_len (d : Dg) : (KD d).length = 32 := by simp [KD]
theorem KB_len (b : Bool) : (KB b).length = 1 := rfl
@[go_sem] theorem KD_back (d : Dg) : (KD d).toArray = rowB 32 (dF d) := by simp [KD]
/-- A row of digests of the call's own. -/
def OwnD (w : World) (Z : Nat) (v : Value) (l : List Dg) : Prop := w.ownsRow Z 46 32 v l.length (l.flatMap KD)
def OwnB (w : World) (Z : Nat) (v : Value) (l : List Bool) : Prop := w.ownsRow Z 4 1 v l.length (l.flatMap KB)
theorem own_form {w : World} {Z : Nat} {t : TypeId} {s : Nat} {v : Value} {n : Nat} {xs : List Value} (h : w.ownsRow Z t s v n xs) : ∃ a c, v = .slice a n c ∧ n ≤ c ∧ c ≤ maxLen ∧ (a = none → c = 0) := by
  rcases h.2 with ⟨rfl, rfl⟩ | ⟨g, cap, cur, rfl, h1, h2, h3, h4, h5, h6⟩
  · exact ⟨none, 0, rfl, by omega, by decide, fun _ => rfl⟩
  · exact ⟨_, cap, rfl, h3, h4, fun h => by cases h⟩
set_option maxHeartbeats 1000000 in
theorem revd_any {Z : Nat} (l : List Dg) (v : Value) (w : World) (hown : OwnD w Z v l) (hl : l.length ≤ 140737488355328) :
    Calls Tryd.prog 88 #[v] w fun e w' => e = .returned (.tuple #[]) ∧ OwnD w' Z v l.reverse ∧ Below Z w w' := by
  obtain ⟨a, c, rfl, k1, k2, k3⟩ := own_form hown
  generalize hn : l.length = n at hl k1
  have HN : Hid (l.length = n) := Lib.hid hn
  unfold OwnD at hown ⊢
  rw [List.length_reverse]
  rw [hn] at hown ⊢
  clear hn
  go_enter Tryd.func88, Tryd.ntmps88
  go_wp2
  go_loopw [2, 3] (fun i j W => ∃ (q : Nat) (m : List Dg), q ≤ n ∧ i = I q ∧ j = I ((n : Int) - 1 - q) ∧ Hid (Turned l m q) ∧ Hid (W.ownsRow Z 46 32 (.slice a n c) n (m.flatMap KD)) ∧ Hid (Below Z w W)) (fun i _ _ => n - (intOf i).toNat)
  case atStart => exact ⟨0, l, by omega, rfl, by simp, Lib.hid (turned_start l), Lib.hid hown, Lib.hid (Below.refl _ _)⟩
  case round =>
    obtain ⟨q, m, hq, rfl, rfl, HT, HO, HB⟩ := hrel
    by_cases hlt : (q : Int) < (n : Int) - 1 - q
    · have hln := HN.out
      have hml := HT.out.len
      obtain ⟨g, cap, cur, hv, _⟩ := own_block HO.out (by omega) (by omega)
      obtain ⟨rfl, rfl⟩ : a = some ⟨g, 0, none⟩ ∧ c = cap := by simpa using hv
      obtain ⟨x, hx⟩ : ∃ x, m[q]? = some x := ⟨_, List.getElem?_eq_getElem (by omega)⟩
      obtain ⟨y, hy⟩ : ∃ y, m[n - 1 - q]? = some y := ⟨_, List.getElem?_eq_getElem (by omega)⟩
      obtain ⟨c1, f1, z1, z2⟩ := own_at KD_len HO.out hx
      obtain ⟨c2, f2, _, _⟩ := own_at KD_len HO.out hy
      rw [KD_back] at c1 c2
      have e1 : ((n : Int) - 1 - q) = ((n - 1 - q : Nat) : Int) := by omega
      have hO2 := own_set KD_len (by omega) HO.out y (i := q) (by omega)
      have hO3 := own_set KD_len (by omega) hO2.1 x (i := n - 1 - q) (by simp; omega)
      have HO3 := Lib.hid hO3
      have HB3 : Hid (Below Z w _) := Lib.hid ((HB.out.trans hO2.2).trans hO3.2)
      have HT3 := Lib.hid (turned_step HT.out (by omega) (by omega) hx hy)
      generalize hJ : n - 1 - q = J at e1 c2 f2 HO3 HB3 HT3
      have j1 : (q : Int) < n := by omega
      have j2 : (J : Int) < n := by omega
      have j3 : (0 : Int) ≤ J := by omega
      clear hO2 hO3 hv hln hml hx hy HN HT HO HB hJ
      rw [e1] at hlt ⊢
      go_wp2
      have mixed : Tryd.prog.follows .mixedOrders = true := by kernel_rfl
      go_big_region_o
      all_goals go_wp2
      refine ⟨⟨q + 1, (m.set q y).set J x, by omega, by go_num, ?_, HT3, ?_, ?_⟩, by simp [intOf]; omega⟩
      · congr 1; omega
      · exact Lib.hid (owns_drew HO3.out.1)
      · exact Lib.hid HB3.out.drew
    · have hl2 := HN.out
      have he := turned_end HT.out (by omega)
      rw [he] at HO
      clear he HT hq hown
      go_wp2
      go_end0
      exact ⟨rfl, HO.out, HB.out⟩
theorem own_atB {w : World} {Z g n cap : Nat} {l : List Bool} (h : w.ownsRow Z 4 1 (.slice (some ⟨g, 0, none⟩) n cap) n (l.flatMap KB)) {i : Nat} {a : Bool} (hi : l[i]? = some a) :
    w.cell? ⟨g, i, none⟩ = some (.bool a) ∧ w.frozen? ⟨g, i, none⟩ = false ∧ Z ≤ g ∧ g < w.heap.size := by
  obtain ⟨h1, h2, h3⟩ := own_at KB_len h hi
  have h4 := (cellsN_some.1 h1).2 0 (by omega)
  have h5 := frozenN_false.1 h2 0 (by omega)
  rw [Nat.mul_one, Nat.add_zero] at h4 h5
  exact ⟨h4, h5, h3⟩
theorem own_setB {w : World} {Z g n cap : Nat} {l : List Bool} (h : w.ownsRow Z 4 1 (.slice (some ⟨g, 0, none⟩) n cap) n (l.flatMap KB)) {i : Nat} (a : Bool) (hi : i < l.length) :
    (w.setCell ⟨g, i, none⟩ (.bool a)).ownsRow Z 4 1 (.slice (some ⟨g, 0, none⟩) n cap) n ((l.set i a).flatMap KB) ∧ Below Z w (w.setCell ⟨g, i, none⟩ (.bool a)) := by
  have := own_set KB_len (by omega) h a hi
  rwa [Nat.mul_one] at this
set_option maxHeartbeats 1000000 in
theorem revb_any {Z : Nat} (l : List Bool) (v : Value) (w : World) (hown : OwnB w Z v l) (hl : l.length ≤ 140737488355328) :
    Calls Tryd.prog 125 #[v] w fun e w' => e = .returned (.tuple #[]) ∧ OwnB w' Z v l.reverse ∧ Below Z w w' := by
  obtain ⟨a, c, rfl, k1, k2, k3⟩ := own_form hown
  generalize hn : l.length = n at hl k1
  have HN : Hid (l.length = n) := Lib.hid hn
  unfold OwnB at hown ⊢
  rw [List.length_reverse]
  rw [hn] at hown ⊢
  clear hn
  go_enter Tryd.func125, Tryd.ntmps125
  go_wp2
  go_loopw [2, 3] (fun i j W => ∃ (q : Nat) (m : List Bool), q ≤ n ∧ i = I q ∧ j = I ((n : Int) - 1 - q) ∧ Hid (Turned l m q) ∧ Hid (W.ownsRow Z 4 1 (.slice a n c) n (m.flatMap KB)) ∧ Hid (Below Z w W)) (fun i _ _ => n - (intOf i).toNat)
  case atStart => exact ⟨0, l, by omega, rfl, by simp, Lib.hid (turned_start l), Lib.hid hown, Lib.hid (Below.refl _ _)⟩
  case round =>
    obtain ⟨q, m, hq, rfl, rfl, HT, HO, HB⟩ := hrel
    by_cases hlt : (q : Int) < (n : Int) - 1 - q
    · have hln := HN.out
      have hml := HT.out.len
      obtain ⟨g, cap, cur, hv, _⟩ := own_block HO.out (by omega) (by omega)
      obtain ⟨rfl, rfl⟩ : a = some ⟨g, 0, none⟩ ∧ c = cap := by simpa using hv
      obtain ⟨x, hx⟩ : ∃ x, m[q]? = some x := ⟨_, List.getElem?_eq_getElem (by omega)⟩
      obtain ⟨y, hy⟩ : ∃ y, m[n - 1 - q]? = some y := ⟨_, List.getElem?_eq_getElem (by omega)⟩
      obtain ⟨c1, f1, z1, z2⟩ := own_atB HO.out hx
      obtain ⟨c2, f2, _, _⟩ := own_atB HO.out hy
      have e1 : ((n : Int) - 1 - q) = ((n - 1 - q : Nat) : Int) := by omega
      have hO2 := own_setB HO.out y (i := q) (by omega)
      have hO3 := own_setB hO2.1 x (i := n - 1 - q) (by simp; omega)
      have HO3 := Lib.hid hO3
      have HB3 : Hid (Below Z w _) := Lib.hid ((HB.out.trans hO2.2).trans hO3.2)
      have HT3 := Lib.hid (turned_step HT.out (by omega) (by omega) hx hy)
      generalize hJ : n - 1 - q = J at e1 c2 f2 HO3 HB3 HT3
      have j1 : (q : Int) < n := by omega
      have j2 : (J : Int) < n := by omega
      have j3 : (0 : Int) ≤ J := by omega
      clear hO2 hO3 hv hln hml hx hy HN HT HO HB hJ
      rw [e1] at hlt ⊢
      go_wp2
      have mixed : Tryd.prog.follows .mixedOrders = true := by kernel_rfl
      go_big_region_o
      all_goals go_wp2
      refine ⟨⟨q + 1, (m.set q y).set J x, by omega, by go_num, ?_, HT3, ?_, ?_⟩, by simp [intOf]; omega⟩
      · congr 1; omega
      · exact Lib.hid (owns_drew HO3.out.1)
      · exact Lib.hid HB3.out.drew
    · have hl2 := HN.out
      have he := turned_end HT.out (by omega)
      rw [he] at HO
      clear he HT hq hown
      go_wp2
      go_end0
      exact ⟨rfl, HO.out, HB.out⟩
end Go.Proofs.YtcdocklbpfdmeaaDoor

/- Digests, bools behind a row of the call's own. -/
set_option linter.unusedSimpArgs false
set_option linter.unusedVariables false
set_option maxRecDepth 20000
namespace Go.Proofs.YtcdocklbpfdmeaaDoor
open Go.RowKit
theorem appId : AppT Tryd.prog 25 46 32 32 (.agg (rowB 32 fun _ => 0)) := ⟨Tryd.underlying25, by kernel_rfl, by simp [Value.cells], by decide⟩
theorem appBool : AppT Tryd.prog 170 4 1 1 (.bool false) := ⟨Tryd.underlying170, by kernel_rfl, rfl, by decide⟩
theorem KD_one (l : List Dg) : ∀ u ∈ l.flatMap KD, u.oneCell' = true := by
  intro u hu
  simp only [List.mem_flatMap] at hu
  obtain ⟨d, _, hd⟩ := hu
  unfold KD at hd
  rw [rowB_bytes] at hd
  exact bytes_one _ u hd
theorem KB_one (l : List Bool) : ∀ u ∈ l.flatMap KB, u.oneCell' = true := by
  intro u hu
  simp only [List.mem_flatMap] at hu
  obtain ⟨d, _, hd⟩ := hu
  obtain rfl : u = .bool d := by simpa [KB] using hd
  rfl
theorem sld_news {w : World} {g off : Nat} {r : List Dg} (h : SlD w (some ⟨g, off, none⟩) r) : ∀ (j : Nat) (u : Value), (r.flatMap KD)[j]? = some u → w.cell? ((⟨g, off, none⟩ : Addr).add j) = some u := by
  intro j u hj
  have hlt : j < r.length * 32 := by
    have := (List.getElem?_eq_some_iff.1 hj).1
    rwa [flat_len KD_len] at this
  have hadd : (⟨g, off, none⟩ : Addr).add j = ⟨g, off + j, none⟩ := by unfold Addr.add; split <;> simp_all
  have hi : r[j / 32]? = some (r[j / 32]'(by omega)) := List.getElem?_eq_getElem _
  have h1 := (h.at hi).1
  have h2 := flat_get KD_len r (j / 32) _ (j % 32) hi (by omega)
  rw [show j / 32 * 32 + j % 32 = j by omega, hj] at h2
  have h3 := (cellsN_some.1 h1).2 (j % 32) (by omega)
  rw [hadd, show off + j = off + j / 32 * 32 + j % 32 by omega, h3]
  unfold KD at h2
  rw [Array.getElem?_toList] at h2
  exact h2.symm
theorem wpAppD {ops : Array Oper} {rest : List Oper} {o : Oper} {a : Act} {w : World} {Q : Exit → Act → World → Prop} (s x : Operand) (hgd : o.guard = none)
    (ho : o.op = .call { callee := .builtin .append, args := #[s, x], argTypes := #[25, 25] })
    {Z : Nat} {v : Value} {l r : List Dg} {g off m c : Nat} (hown : OwnD w Z v l) (hs : a.eval s = v) (hx : a.eval x = .slice (some ⟨g, off, none⟩) m c) (hm : m = r.length) (hr : SlD w (some ⟨g, off, none⟩) r) (hlen : l.length + r.length ≤ 1000000) (hZ : Z ≤ w.heap.size)
    (h : ∀ v' w', OwnD w' Z v' (l ++ r) → Below Z w w' → wpList Tryd.prog ops Q rest (a.put o.dst v') w') : wpList Tryd.prog ops Q (o :: rest) a w := by
  subst hm
  refine wpApp appId s x hgd ho hown hs ⟨g, off, none⟩ r.length c (r.flatMap KD) hx (flat_len KD_len r) (sld_news hr) (KD_one r) (by unfold maxLen; omega) (by omega) hZ fun v' w' k1 k2 => ?_
  rw [← List.flatMap_append, ← List.length_append] at k1
  exact h v' w' k1 k2
theorem sld_one {w w' : World} {g : Nat} (d : Dg) (k : Ex (w.alloc (.cells (rowB 32 (dF d)) 46)) w') (hg : g = w.heap.size) : SlD w' (some ⟨g, 0, none⟩) [d] := by
  subst hg
  have hb := ex_block k (heap_alloc_new w _)
  refine ⟨Or.inr ⟨_, 0, rfl, (Array.getElem?_eq_some_iff.1 hb).1, fun i e he => ?_⟩⟩
  have hi : i = 0 := by
    have := (List.getElem?_eq_some_iff.1 he).1
    simpa using this
  subst hi
  obtain rfl : d = e := by simpa using he
  refine cellsN_some.2 ⟨by simp, fun j hj => ?_⟩
  rw [Nat.zero_mul, Nat.add_zero, Nat.zero_add, cell_of_row _ w.heap.size j _ _ _ hb]
theorem ownd_nil (w : World) (Z : Nat) : OwnD w Z (.slice none 0 0) [] := owns_nil _ _ _ _
theorem OwnD.ex {w w' : World} {Z : Nat} {v : Value} {l : List Dg} (h : OwnD w Z v l) (k : Ex w w') : OwnD w' Z v l := owns_ex h k
theorem OwnD.slg {w : World} {Z : Nat} {v : Value} {l : List Dg} (h : OwnD w Z v l) : ∃ a c, v = .slice a l.length c ∧ l.length ≤ c ∧ c ≤ maxLen ∧ (a = none → c = 0) ∧ SlD w a l := by
  obtain ⟨a, c, rfl, k1, k2, k3⟩ := own_form h
  refine ⟨a, c, rfl, k1, k2, k3, ?_⟩
  rcases Nat.eq_zero_or_pos l.length with h0 | hpos
  · rw [List.eq_nil_of_length_eq_zero h0]; exact SlD.nil _ _
  · obtain ⟨g, cap, cur, hv, _⟩ := own_block h hpos (by omega)
    obtain ⟨rfl, rfl⟩ : a = some ⟨g, 0, none⟩ ∧ c = cap := by simpa using hv
    refine ⟨Or.inr ⟨g, 0, rfl, (h.lt g rfl).2, fun i d hd => ?_⟩⟩
    have := (own_at KD_len h hd).1
    rw [KD_back] at this
    rwa [Nat.zero_add]
/-- What hands back digests of the call's own. -/
def PostO (W : World) (l : List Dg) (e : Ending) (w' : World) : Prop := ∃ v, e = .returned v ∧ OwnD w' W.heap.size v l ∧ ∃ X, w' = wx W X
def PostO2 (W : World) (l : List Dg) (e : Ending) (w' : World) : Prop := ∃ v, e = .returned (.tuple #[v, I 0]) ∧ OwnD w' W.heap.size v l ∧ ∃ X, w' = wx W X
/-- A result in memory, and one beside it. -/
theorem ret_rowV {P : Program} {fn : Func} {p q : Tmp} {ty : TypeId} {d : TypeDesc} {n b : Nat} {cs : Array Value} {v : Value} {R : Ending → World → Prop} {a : Act} {w : World} (h : fn.results = #[.cell p ty, .tmp q])
    (hu : P.underlying ty = some d) (hd : d.isRow = true) (hi : (P.info? ty).map (·.size) = some n) (hp : a.tmps.getD p undef = .pointer (some ⟨b, 0, none⟩)) (hc : cellsN w b 0 n = some cs) (hq : a.tmps.getD q undef = v) (hdf : a.defers = [])
    (hR : R (.returned (.tuple #[.agg cs, v])) w) : bodyPost P fn R .ret a w := by
  have h1 := (cellsN_some.1 hc).1
  have hrun := run_loadVar_mid (P := P) w b 0 ty cs.toList d (cellsN_range hc) hu hd (by rw [hi]; simp [h1])
  have hp' : a.tmps[p]?.getD undef = .pointer (some ⟨b, 0, none⟩) := by simpa using hp
  have hq' : a.tmps[q]?.getD undef = v := by simpa using hq
  exact bodyPost_ret (by simp [results, h, hp', hq', asAddr, hrun]) hdf hR
/-- Two results in memory, and one beside them. -/
theorem ret_row3 {P : Program} {fn : Func} {p p2 q : Tmp} {ty : TypeId} {d : TypeDesc} {n b b2 : Nat} {cs cs2 : Array Value} {v : Value} {R : Ending → World → Prop} {a : Act} {w : World} (h : fn.results = #[.cell p ty, .cell p2 ty, .tmp q])
    (hu : P.underlying ty = some d) (hd : d.isRow = true) (hi : (P.info? ty).map (·.size) = some n) (hp : a.tmps.getD p undef = .pointer (some ⟨b, 0, none⟩)) (hc : cellsN w b 0 n = some cs)
    (hp2 : a.tmps.getD p2 undef = .pointer (some ⟨b2, 0, none⟩)) (hc2 : cellsN w b2 0 n = some cs2) (hq : a.tmps.getD q undef = v) (hdf : a.defers = [])
    (hR : R (.returned (.tuple #[.agg cs, .agg cs2, v])) w) : bodyPost P fn R .ret a w := by
  have h1 := (cellsN_some.1 hc).1
  have h2 := (cellsN_some.1 hc2).1
  have hrun := run_loadVar_mid (P := P) w b 0 ty cs.toList d (cellsN_range hc) hu hd (by rw [hi]; simp [h1])
  have hrun2 := run_loadVar_mid (P := P) w b2 0 ty cs2.toList d (cellsN_range hc2) hu hd (by rw [hi]; simp [h2])
  have hp' : a.tmps[p]?.getD undef = .pointer (some ⟨b, 0, none⟩) := by simpa using hp
  have hp2' : a.tmps[p2]?.getD undef = .pointer (some ⟨b2, 0, none⟩) := by simpa using hp2
  have hq' : a.tmps[q]?.getD undef = v := by simpa using hq
  exact bodyPost_ret (by simp [results, h, hp', hp2', hq', asAddr, hrun, hrun2]) hdf hR
/-! ### A slice of one digest -/
def buildRun (P : Program) (t : TypeId) (v : Value) (w : World) : Result Next := ((Instr.buildSlice t 1 #[(0, v)]).run P w).andThen fun x w' => .ok (.value x) w'
@[go_sem ↓ high] theorem run_build_pre {P : Program} (ρ : Operand → Value) (d : Option Tmp) (t : TypeId) (x : Operand) (ty : TypeId) (pos : String) (aft : Array Edge) (g : Option (Nat × Bool)) (w : World) :
    Sem.run P (execOp ρ ⟨d, .buildSlice t 1 #[(0, x)], ty, pos, aft, g⟩) w = buildRun P t (ρ x) w := by
  simp only [execOp, Sem.run_bind, Sem.run_pure, buildRun, List.map_toArray, List.map_cons, List.map_nil]
@[go_sem low] theorem buildRun_other {P : Program} (t : TypeId) (v : Value) (w : World) : buildRun P t v w = ((Instr.buildSlice t 1 #[(0, v)]).run P w).andThen fun x w' => .ok (.value x) w' := rfl
theorem fill_id (f : Nat → UInt8) : Array.foldl (fun (cs : Array Value) (x : Value × Nat) => cs.setIfInBounds x.2 x.1) #[B 0, B 0, B 0, B 0, B 0, B 0, B 0, B 0, B 0, B 0, B 0, B 0, B 0, B 0, B 0, B 0, B 0, B 0, B 0, B 0, B 0, B 0, B 0, B 0, B 0, B 0, B 0, B 0, B 0, B 0, B 0, B 0] (rowB 32 f).zipIdx 0 32 = rowB 32 f := by
  kernel_rfl
@[go_sem] theorem buildRun_id (f : Nat → UInt8) (w : World) : buildRun Tryd.prog 25 (.agg (rowB 32 f)) w = .ok (.value (.slice (some ⟨w.heap.size, 0, none⟩) 1 1)) (w.alloc (.cells (rowB 32 f) 46)) := by
  unfold buildRun
  have hi : (Tryd.prog.info? 46).map (fun i => (i.zero, i.size)) = some (some (.agg (rowB 32 fun _ => 0)), 32) := by kernel_rfl
  obtain ⟨i, hi1, hi2⟩ := Option.map_eq_some_iff.1 hi
  simp only [Prod.mk.injEq] at hi2
  simp [Instr.buildSlice, run_underlying Tryd.underlying25, Go.sizeOf, typeInfo, zeroValue, hi1, hi2.1, hi2.2, Instr.fill, Value.cells, newRow, go_sem]
  exact congrArg (fun c => w.alloc (.cells c 46)) (fill_id f)
end Go.Proofs.YtcdocklbpfdmeaaDoor
