import Derived.Test.YtpcfkjeikhehaaaDoorMApp
import Derived.Lib.Hide
import Derived.Test.YtpcfkjeikhehaaaDoorMSeq
import Derived.Test.YtpcfkjeikhehaaaDoorMShS
import Derived.Shelf.RegionOpenPlain

/- Rows of the call's own whose elements are turned in place. Over whatever program. -/
set_option linter.unusedSimpArgs false
set_option linter.unusedVariables false
set_option maxRecDepth 20000
namespace Go.Proofs.YtpcfkjeikhehaaaDoor
open Go.RowKit
section
variable {P : Program} {α : Type} {K : α → List Value} {s : Nat}
theorem flat_len (hK : ∀ a, (K a).length = s) : ∀ l : List α, (l.flatMap K).length = l.length * s
  | [] => by simp
  | a :: l => by rw [List.flatMap_cons, List.length_append, flat_len hK l, hK, List.length_cons, Nat.succ_mul, Nat.add_comm]
theorem flat_get (hK : ∀ a, (K a).length = s) : ∀ (l : List α) (i : Nat) (a : α) (j : Nat), l[i]? = some a → j < s → (l.flatMap K)[i * s + j]? = (K a)[j]?
  | [], i, a, j, h, _ => by simp at h
  | b :: l, 0, a, j, h, hj => by
    have : b = a := by simpa using h
    subst this
    rw [List.flatMap_cons, Nat.zero_mul, Nat.zero_add, List.getElem?_append_left (by rw [hK]; exact hj)]
  | b :: l, i + 1, a, j, h, hj => by
    have h2 : l[i]? = some a := by simpa using h
    rw [List.flatMap_cons, List.getElem?_append_right (by rw [hK, Nat.succ_mul]; omega), hK, Nat.succ_mul, show i * s + s + j - s = i * s + j by omega]
    exact flat_get hK l i a j h2 hj
theorem setCells_heap (b : Nat) : ∀ (vs : List Value) (o : Nat) (w : World) (k : Nat), k ≠ b → (w.setCells b o vs).heap[k]? = w.heap[k]?
  | [], _, _, _, _ => rfl
  | v :: r, o, w, k, h => by
    unfold World.setCells
    rw [setCells_heap b r (o + 1) _ k h]
    simp only [World.setCell, Array.getElem?_modify]
    rw [if_neg (by simpa using Ne.symm h)]
theorem setCells_block (b : Nat) (t : TypeId) (fr : Nat × Nat) : ∀ (vs : List Value) (o : Nat) (w : World) (c : Array Value), w.heap[b]? = some (.cells c t fr) → (w.setCells b o vs).heap[b]? = some (.cells (spliceA c o vs) t fr)
  | [], _, _, _, h => h
  | v :: r, o, w, c, h => by
    unfold World.setCells
    rw [setCells_block b t fr r (o + 1) _ (c.setIfInBounds o v) (by simp [World.setCell, Array.getElem?_modify, h])]
    rfl
theorem setCells_below {Z b : Nat} (hb : Z ≤ b) : ∀ (vs : List Value) (o : Nat) (w : World), Below Z w (w.setCells b o vs)
  | [], _, w => Below.refl Z w
  | v :: r, o, w => by
    unfold World.setCells
    exact ((Below.refl Z w).setCell (p := ⟨b, o, none⟩) hb v).trans (setCells_below hb r (o + 1) _)
/-- The row lies in one block. -/
theorem own_block {w : World} {Z : Nat} {t : TypeId} {v : Value} {n : Nat} {xs : List Value} (h : w.ownsRow Z t s v n xs) (hn : 0 < n) (hs : 0 < s) :
    ∃ g cap cur, v = .slice (some ⟨g, 0, none⟩) n cap ∧ Z ≤ g ∧ w.heap[g]? = some (.cells cur t (0, 0)) ∧ n ≤ cap ∧ cap ≤ maxLen ∧ cur.size = cap * s ∧ cur.toList.take (n * s) = xs := by
  rcases h.2 with ⟨_, h0⟩ | ⟨g, cap, cur, h⟩
  · omega
  · exact ⟨g, cap, cur, h⟩
theorem own_at (hK : ∀ a, (K a).length = s) {w : World} {Z g n cap : Nat} {t : TypeId} {l : List α} (h : w.ownsRow Z t s (.slice (some ⟨g, 0, none⟩) n cap) n (l.flatMap K)) {i : Nat} {a : α} (hi : l[i]? = some a) :
    cellsN w g (i * s) s = some (K a).toArray ∧ frozenN w g (i * s) s = false ∧ Z ≤ g ∧ g < w.heap.size := by
  have hlt := h.lt g rfl
  refine ⟨cellsN_some.2 ⟨by simp [hK], fun j hj => ?_⟩, frozenN_false.2 fun j hj => ?_, hlt⟩
  · have h1 := flat_get hK l i a j hi hj
    rw [List.getElem?_toArray]
    have h2 : (K a)[j]? = some ((K a)[j]'(by rw [hK]; exact hj)) := List.getElem?_eq_getElem _
    rw [h2] at h1 ⊢
    have := h.cells (g := g) rfl _ _ h1
    have hadd : (⟨g, 0, none⟩ : Addr).add (i * s + j) = ⟨g, i * s + j, none⟩ := by unfold Addr.add; split <;> simp_all
    rwa [hadd] at this
  · rcases h.2 with ⟨hv, _⟩ | ⟨g', cap', cur, hv, _, hb, _⟩
    · cases hv
    · cases hv
      simp [World.frozen?, hb]
/-- One element turned. -/
theorem own_set (hK : ∀ a, (K a).length = s) (hs : 0 < s) {w : World} {Z g n cap : Nat} {t : TypeId} {l : List α} (h : w.ownsRow Z t s (.slice (some ⟨g, 0, none⟩) n cap) n (l.flatMap K)) {i : Nat} (a : α) (hi : i < l.length) :
    (w.setCells g (i * s) (K a)).ownsRow Z t s (.slice (some ⟨g, 0, none⟩) n cap) n ((l.set i a).flatMap K) ∧ Below Z w (w.setCells g (i * s) (K a)) := by
  have hlen : l.length = n := by
    have h1 := h.1
    rw [flat_len hK] at h1
    exact Nat.eq_of_mul_eq_mul_right hs h1
  rcases h.2 with ⟨hv, _⟩ | ⟨g', cap', cur, hv, h1, hb, h3, h4, h5, h6⟩
  · cases hv
  · cases hv
    refine ⟨⟨by rw [flat_len hK, List.length_set, hlen], Or.inr ⟨g, cap, spliceA cur (i * s) (K a), rfl, h1, setCells_block _ _ _ _ _ _ _ hb, h3, h4, ?_, ?_⟩⟩, setCells_below h1 _ _ _⟩
    · have : ∀ (vs : List Value) (o : Nat) (c : Array Value), (spliceA c o vs).size = c.size := by
        intro vs
        induction vs with
        | nil => intro o c; rfl
        | cons v r ih =>
          intro o c
          show (spliceA (c.setIfInBounds o v) (o + 1) r).size = _
          rw [ih]; simp
      rw [this, h5]
    · apply List.ext_getElem?
      intro q
      rw [List.getElem?_take]
      have hq0 : q = q / s * s + q % s := by rw [Nat.mul_comm]; exact (Nat.div_add_mod q s).symm
      have hqs := Nat.mod_lt q hs
      generalize q / s = e at hq0
      generalize q % s = j at hq0 hqs
      subst hq0
      by_cases hn : e < n
      · have hin : e * s + j < n * s := by
          have := Nat.mul_le_mul_right s (show e + 1 ≤ n by omega)
          rw [Nat.succ_mul] at this; omega
        have hncap := Nat.mul_le_mul_right s h3
        rw [if_pos hin, Array.getElem?_toList, spliceA_get]
        have hold : cur[e * s + j]? = (l.flatMap K)[e * s + j]? := by
          rw [← h6, List.getElem?_take, if_pos hin, Array.getElem?_toList]
        by_cases hei : e = i
        · subst hei
          rw [if_pos ⟨by omega, by rw [hK]; omega, by rw [h5]; omega⟩, flat_get hK _ e a j (by rw [List.getElem?_set_self (by omega)]) hqs, Nat.add_sub_cancel_left]
        · have hne : ¬ (i * s ≤ e * s + j ∧ e * s + j < i * s + (K a).length ∧ e * s + j < cur.size) := by
            rw [hK]
            rintro ⟨k1, k2, _⟩
            rcases Nat.lt_or_gt_of_ne hei with h | h
            · have := Nat.mul_le_mul_right s (show e + 1 ≤ i by omega)
              rw [Nat.succ_mul] at this; omega
            · have := Nat.mul_le_mul_right s (show i + 1 ≤ e by omega)
              rw [Nat.succ_mul] at this; omega
          rw [if_neg hne, hold]
          have hle : e < l.length := by omega
          rw [flat_get hK l e l[e] j (List.getElem?_eq_getElem hle) hqs, flat_get hK (l.set i a) e l[e] j (by rw [List.getElem?_set_ne (Ne.symm hei), List.getElem?_eq_getElem hle]) hqs]
      · have hin : ¬ e * s + j < n * s := by
          have := Nat.mul_le_mul_right s (show n ≤ e by omega)
          omega
        rw [if_neg hin, List.getElem?_eq_none]
        rw [flat_len hK, List.length_set, hlen]; omega
@[go_sem] theorem setCells_isSome (w : World) (b o : Nat) (vs : List Value) (b' o' n : Nat) : (cellsN (w.setCells b o vs) b' o' n).isSome = (cellsN w b' o' n).isSome := by
  have hc : ∀ (vs : List Value) (o : Nat) (w : World) (a : Addr), ((w.setCells b o vs).cell? a).isSome = (w.cell? a).isSome := by
    intro vs
    induction vs with
    | nil => intro o w a; rfl
    | cons v r ih =>
      intro o w a
      unfold World.setCells
      rw [ih]
      obtain ⟨ab, ao, asp⟩ := a
      simp only [World.cell?, World.setCell, Array.getElem?_modify]
      by_cases h : b = ab
      · subst h
        cases hb : w.heap[b]? with
        | none => simp
        | some ob =>
          cases ob with
          | cells c t fr =>
            cases asp with
            | some q => simp
            | none =>
              simp only [if_true, Option.map_some, Option.isSome_none, Bool.false_eq_true, if_false, Array.getElem?_setIfInBounds]
              by_cases h2 : o = ao
              · subst h2
                by_cases h3 : o < c.size
                · simp [h3]
                · simp [h3]
              · simp [h2]
          | _ => simp
      · rw [if_neg h]
  unfold cellsN
  simp only [hc]
  split <;> rfl
@[go_sem] theorem setCells_frozenN (w : World) (b o : Nat) (vs : List Value) (b' o' n : Nat) : frozenN (w.setCells b o vs) b' o' n = frozenN w b' o' n := by
  have hc : ∀ (vs : List Value) (o : Nat) (w : World) (a : Addr), (w.setCells b o vs).frozen? a = w.frozen? a := by
    intro vs
    induction vs with
    | nil => intro o w a; rfl
    | cons v r ih =>
      intro o w a
      unfold World.setCells
      rw [ih]
      obtain ⟨ab, ao, asp⟩ := a
      simp only [World.frozen?, World.setCell, Array.getElem?_modify]
      by_cases h : b = ab
      · subst h
        cases hb : w.heap[b]? with
        | none => simp
        | some ob => cases ob <;> simp
      · rw [if_neg h]
  unfold frozenN
  simp only [hc]
/-! ### Backwards -/
/-- Behind i swaps. -/
structure Turned (l m : List α) (i : Nat) : Prop where
  len : m.length = l.length
  get : ∀ q, q < l.length → m[q]? = if q < i ∨ l.length ≤ q + i then l[l.length - 1 - q]? else l[q]?
theorem turned_start (l : List α) : Turned l l 0 := ⟨rfl, fun q hq => by rw [if_neg (by omega)]⟩
theorem turned_step {l m : List α} {i j : Nat} {a b : α} (h : Turned l m i) (hj : j = l.length - 1 - i) (hij : i < j) (ha : m[i]? = some a) (hb : m[j]? = some b) : Turned l ((m.set i b).set j a) (i + 1) := by
  subst hj
  have hl := h.len
  refine ⟨by simp [hl], fun q hq => ?_⟩
  have e1 := h.get i (by omega)
  have e2 := h.get (l.length - 1 - i) (by omega)
  rw [if_neg (by omega)] at e1 e2
  by_cases h1 : q = l.length - 1 - i
  · subst h1
    rw [List.getElem?_set_self (by simp; omega), if_pos (by omega), show l.length - 1 - (l.length - 1 - i) = i by omega, ← e1, ha]
  · rw [List.getElem?_set_ne (Ne.symm h1)]
    by_cases h2 : q = i
    · subst h2
      rw [List.getElem?_set_self (by omega), if_pos (by omega), ← e2, hb]
    · rw [List.getElem?_set_ne (Ne.symm h2), h.get q hq]
      by_cases h3 : q < i ∨ l.length ≤ q + i
      · rw [if_pos h3, if_pos (by omega)]
      · rw [if_neg h3, if_neg (by omega)]
theorem turned_end {l m : List α} {i : Nat} (h : Turned l m i) (hi : l.length ≤ 2 * i + 1) : m = l.reverse := by
  apply List.ext_getElem?
  intro q
  by_cases hq : q < l.length
  · rw [h.get q hq, List.getElem?_reverse hq]
    by_cases h3 : q < i ∨ l.length ≤ q + i
    · rw [if_pos h3]
    · rw [if_neg h3, show l.length - 1 - q = q by omega]
  · rw [List.getElem?_eq_none (by rw [h.len]; omega), List.getElem?_eq_none (by simp; omega)]
end
end Go.Proofs.YtpcfkjeikhehaaaDoor

/- Short numbers, walked. -/
set_option linter.unusedSimpArgs false
set_option linter.unusedVariables false
set_option maxRecDepth 20000
namespace Go.Proofs.YtpcfkjeikhehaaaDoor
open Go.RowKit
theorem own_form {w : World} {Z : Nat} {t : TypeId} {s : Nat} {v : Value} {n : Nat} {xs : List Value} (h : w.ownsRow Z t s v n xs) : ∃ a c, v = .slice a n c ∧ n ≤ c ∧ c ≤ maxLen ∧ (a = none → c = 0) := by
  rcases h.2 with ⟨rfl, rfl⟩ | ⟨g, cap, cur, rfl, h1, h2, h3, h4, h5, h6⟩
  · exact ⟨none, 0, rfl, by omega, by decide, fun _ => rfl⟩
  · exact ⟨_, cap, rfl, h3, h4, fun h => by cases h⟩
/-- Own bytes. -/
def OwnL (w : World) (Z : Nat) (v : Value) (l : List UInt8) : Prop := w.ownsRow Z 5 1 v l.length (Lib.byteCells l)
def KU (b : UInt8) : List Value := [B b]
theorem KU_len (b : UInt8) : (KU b).length = 1 := rfl
theorem KU_flat (l : List UInt8) : l.flatMap KU = Lib.byteCells l := by
  unfold Lib.byteCells
  induction l with
  | nil => rfl
  | cons a l ih => rw [List.flatMap_cons, ih]; rfl
theorem OwnL.ex {w w' : World} {Z : Nat} {v : Value} {l : List UInt8} (h : OwnL w Z v l) (k : Ex w w') : OwnL w' Z v l := owns_ex h k
theorem OwnL.slt {w : World} {Z : Nat} {v : Value} {l : List UInt8} (h : OwnL w Z v l) : SlT w v l := owns_slt h
theorem OwnL.sls {w : World} {Z : Nat} {v : Value} {l : List UInt8} (h : OwnL w Z v l) (hn : l ≠ []) : SlS w v l := by
  obtain ⟨a, c, h1, h2, h3, h4, h5⟩ := h.slt.out
  cases a with
  | none =>
    have := h4 rfl
    exact absurd (List.eq_nil_of_length_eq_zero (by omega)) hn
  | some ad => exact ⟨ad, c, h1, h2, h3, h5⟩
theorem ownl_nil (w : World) (Z : Nat) : OwnL w Z (.slice none 0 0) [] := owns_nil _ _ _ _
theorem ownl_one {w w' : World} {Z g : Nat} (b : UInt8) {z : Int} (k : Ex (w.alloc (.cells #[.int .u8 z] 5)) w') (hg : g = w.heap.size) (hZ : Z ≤ w.heap.size) (hz : z = bn b) : OwnL w' Z (.slice (some ⟨g, 0, none⟩) 1 1) [b] := by
  subst hg hz
  exact owns_ex (owns_new (n := 1) (cap := 1) rfl hZ (by omega) (by decide) (by simp) (by simp [Lib.byteCells, B, bn])) k
def PostOw (W : World) (l : List UInt8) (e : Ending) (w' : World) : Prop := ∃ v, e = .returned v ∧ OwnL w' W.heap.size v l ∧ Ex W w'
/-! ### slices.Reverse of own bytes -/
theorem own_atU {w : World} {Z g n cap : Nat} {l : List UInt8} (h : w.ownsRow Z 5 1 (.slice (some ⟨g, 0, none⟩) n cap) n (l.flatMap KU)) {i : Nat} {a : UInt8} (hi : l[i]? = some a) :
    w.cell? ⟨g, i, none⟩ = some (B a) ∧ w.frozen? ⟨g, i, none⟩ = false ∧ Z ≤ g ∧ g < w.heap.size := by
  obtain ⟨h1, h2, h3⟩ := own_at KU_len h hi
  have h4 := (cellsN_some.1 h1).2 0 (by omega)
  have h5 := frozenN_false.1 h2 0 (by omega)
  rw [Nat.mul_one, Nat.add_zero] at h4 h5
  exact ⟨h4, h5, h3⟩
theorem own_setU {w : World} {Z g n cap : Nat} {l : List UInt8} (h : w.ownsRow Z 5 1 (.slice (some ⟨g, 0, none⟩) n cap) n (l.flatMap KU)) {i : Nat} (a : UInt8) (hi : i < l.length) :
    (w.setCell ⟨g, i, none⟩ (B a)).ownsRow Z 5 1 (.slice (some ⟨g, 0, none⟩) n cap) n ((l.set i a).flatMap KU) ∧ Below Z w (w.setCell ⟨g, i, none⟩ (B a)) := by
  have := own_set KU_len (by omega) h a hi
  rwa [Nat.mul_one] at this
set_option maxHeartbeats 1000000 in
theorem revl_any {Z : Nat} (l : List UInt8) (v : Value) (w : World) (hown : OwnL w Z v l) (hl : l.length ≤ 140737488355328) :
    Calls Tryd.prog 29 #[v] w fun e w' => e = .returned (.tuple #[]) ∧ OwnL w' Z v l.reverse ∧ Below Z w w' := by
  obtain ⟨a, c, rfl, k1, k2, k3⟩ := own_form hown
  generalize hn : l.length = n at hl k1
  have HN : Hid (l.length = n) := Lib.hid hn
  unfold OwnL at hown ⊢
  rw [List.length_reverse]
  rw [hn] at hown ⊢
  rw [← KU_flat] at hown ⊢
  clear hn
  go_enter Tryd.func29, Tryd.ntmps29
  go_wp2
  go_loopw [2, 3] (fun i j W => ∃ (q : Nat) (m : List UInt8), q ≤ n ∧ i = I q ∧ j = I ((n : Int) - 1 - q) ∧ Hid (Turned l m q) ∧ Hid (W.ownsRow Z 5 1 (.slice a n c) n (m.flatMap KU)) ∧ Hid (Below Z w W)) (fun i _ _ => n - (intOf i).toNat)
  case atStart => exact ⟨0, l, by omega, rfl, by simp, Lib.hid (turned_start l), Lib.hid hown, Lib.hid (Below.refl _ _)⟩
  case round =>
    obtain ⟨q, m, hq, rfl, rfl, HT, HO, HB⟩ := hrel
    by_cases hlt : (q : Int) < (n : Int) - 1 - q
    · have hln := HN.out
      have hml := HT.out.len
      obtain ⟨g, cap, cur, hv, _⟩ := own_block HO.out (by omega) (by omega)
      obtain ⟨rfl, rfl⟩ : a = some ⟨g, 0, none⟩ ∧ c = cap := by simpa using hv
      obtain ⟨x, hx⟩ : ∃ x, m[q]? = some x := ⟨_, List.getElem?_eq_getElem (by omega)⟩
      obtain ⟨y, hy⟩ : ∃ y, m[n - 1 - q]? = some y := ⟨_, List.getElem?_eq_getElem (by omega)⟩
      obtain ⟨c1, f1, z1, z2⟩ := own_atU HO.out hx
      obtain ⟨c2, f2, _, _⟩ := own_atU HO.out hy
      have e1 : ((n : Int) - 1 - q) = ((n - 1 - q : Nat) : Int) := by omega
      have hO2 := own_setU HO.out y (i := q) (by omega)
      have hO3 := own_setU hO2.1 x (i := n - 1 - q) (by simp; omega)
      have HO3 := Lib.hid hO3
      have HB3 : Hid (Below Z w _) := Lib.hid ((HB.out.trans hO2.2).trans hO3.2)
      have HT3 := Lib.hid (turned_step HT.out (by omega) (by omega) hx hy)
      generalize hJ : n - 1 - q = J at e1 c2 f2 HO3 HB3 HT3
      have j1 : (q : Int) < n := by omega
      have j2 : (J : Int) < n := by omega
      have j3 : (0 : Int) ≤ J := by omega
      clear hO2 hO3 hv hln hml hx hy HN HT HO HB hJ
      rw [e1] at hlt ⊢
      go_wp2
      have mixed : Tryd.prog.follows .mixedOrders = true := by kernel_rfl
      go_big_region_o
      all_goals go_wp2
      refine ⟨⟨q + 1, (m.set q y).set J x, by omega, by go_num, ?_, HT3, ?_, ?_⟩, by simp [intOf]; omega⟩
      · congr 1; omega
      · exact Lib.hid (owns_drew HO3.out.1)
      · exact Lib.hid HB3.out.drew
    · have hl2 := HN.out
      have he := turned_end HT.out (by omega)
      rw [he] at HO
      clear he HT hq hown
      go_wp2
      go_end0
      exact ⟨rfl, HO.out, HB.out⟩
/-! ### Numbers -/
theorem bv64 (x : Nat) : BitVec.ofInt 64 (x : Int) = BitVec.ofNat 64 x := by
  apply BitVec.eq_of_toNat_eq
  simp
theorem wrap_u64_nat (n : Nat) (h : n < 18446744073709551616) : IntKind.u64.wrap (n : Int) = n := by
  rw [IntKind.wrap_u64]; omega
theorem wrap_u8_nat (n : Nat) (h : n < 256) : IntKind.u8.wrap (n : Int) = n := by
  rw [IntKind.wrap_u8]; omega
theorem and127 (x : Nat) (h : x < 18446744073709551616) : bits BinOp.and IntKind.u64 (x : Int) 127 = ((x % 128 : Nat) : Int) := by
  simp only [bits]
  rw [show IntKind.u64.bits = 64 from rfl, bv64, show (127 : Int) = ((127 : Nat) : Int) from rfl, bv64, wrap_u64_nat _ (BitVec.isLt _)]
  congr 1
  rw [BitVec.toNat_and, BitVec.toNat_ofNat, BitVec.toNat_ofNat, Nat.mod_eq_of_lt h]
  exact Nat.and_two_pow_sub_one_eq_mod x 7
theorem or128 (x : Nat) (h : x < 128) : bits BinOp.or IntKind.u8 (x : Int) 128 = ((x + 128 : Nat) : Int) := by
  simp only [bits]
  rw [show IntKind.u8.bits = 8 from rfl]
  have e : (BitVec.ofInt 8 (x : Int) ||| BitVec.ofInt 8 128).toNat = x + 128 := by
    have : ∀ y : Fin 128, (BitVec.ofInt 8 ((y.val : Nat) : Int) ||| BitVec.ofInt 8 128).toNat = y.val + 128 := by decide +kernel
    exact this ⟨x, h⟩
  rw [e, wrap_u8_nat _ (by omega)]
theorem short_any (x : Nat) (w : World) (hx : x < 18446744073709551616) :
    Calls Tryd.prog 11 #[.int .u64 x] w (PostOw w (shortL x)) := by
  have h1 := and127 x hx
  go_enter Tryd.func11, Tryd.ntmps11
  go_wp2
  go_loopw [0, 3] (fun t b W => ∃ (y : Nat) (l : List UInt8), y < 18446744073709551616 ∧ t = .int .u64 y ∧ Hid (upL y ++ l.reverse = shortL x) ∧ Hid (OwnL W w.heap.size b l) ∧ Ex w W) (fun t _ _ => (intOf t).toNat)
  case atStart =>
    refine ⟨x / 128, [UInt8.ofNat (x % 128)], by omega, by simp, Lib.hid rfl, Lib.hid (ownl_one _ (ex_refl _) rfl (Nat.le_refl _) ?_), (by (try show Ex _ _); repeat (first | (with_reducible exact ex_refl _) | (with_reducible assumption) | (with_reducible refine ex_drewL ?_) | (with_reducible refine ex_appR ?_ _) | (with_reducible refine ex_wx ?_ _) | (with_reducible refine ex_drew ?_) | (with_reducible refine ex_alloc ?_ _)))⟩
    unfold bn; rw [toNat_lo (by omega)]; simp
  case round =>
    obtain ⟨y, l, hy, rfl, HU, HO, kr⟩ := hrel
    have HL := shortL_len hx
    by_cases h0 : y = 0
    · subst h0
      have e1 := HU.out
      rw [upL_zero, List.nil_append] at e1
      have hl : l.length ≤ 10 := by rw [← e1, List.length_reverse] at HL; exact HL
      obtain ⟨a, c, rfl, _⟩ := own_form HO.out
      clear h1
      go_wp2_with ((with_reducible refine (revl_any l _ _ HO.out (by omega)).mono ?_); rintro e w2 ⟨rfl, hO, hB⟩)
      go_ret
      rw [e1] at hO
      exact ⟨_, rfl, hO, ex_of_below ((ex_below (by (try show Ex _ _); repeat (first | (with_reducible exact ex_refl _) | (with_reducible assumption) | (with_reducible refine ex_drewL ?_) | (with_reducible refine ex_appR ?_ _) | (with_reducible refine ex_wx ?_ _) | (with_reducible refine ex_drew ?_) | (with_reducible refine ex_alloc ?_ _)))).trans hB)⟩
    · have h2 := and127 y hy
      have h3 : bits BinOp.or IntKind.u8 ((y : Int) % 128) 128 = (y : Int) % 128 + 128 := by have := or128 (y % 128) (by omega); simpa using this
      have e2 : (0 : Int) < y := by omega
      have hl : l.length < 10 := by
        have h4 := congrArg List.length HU.out
        rw [List.length_append, List.length_reverse, upL_pos h0, List.length_append, List.length_singleton] at h4
        omega
      have HU2 : Hid (upL (y / 128) ++ (l ++ [UInt8.ofNat (y % 128 + 128)]).reverse = shortL x) := Lib.hid (by rw [← HU.out, upL_pos h0]; simp)
      have HZ : Hid (bn (UInt8.ofNat (y % 128 + 128)) = ((y % 128 + 128 : Nat) : Int)) := Lib.hid (by unfold bn; rw [toNat_hi])
      obtain ⟨b, hb⟩ : ∃ b, UInt8.ofNat (y % 128 + 128) = b := ⟨_, rfl⟩
      rw [hb] at HU2 HZ
      clear HU hb HL
      have hZ : w.heap.size ≤ wr.heap.size := ex_size kr
      obtain ⟨a, c, rfl, _⟩ := own_form HO.out
      go_wp2_with (at_builtin; refine wpAppB _ _ rfl rfl (owns_ex HO.out (by (try show Ex _ _); repeat (first | (with_reducible exact ex_refl _) | (with_reducible assumption) | (with_reducible refine ex_drewL ?_) | (with_reducible refine ex_appR ?_ _) | (with_reducible refine ex_wx ?_ _) | (with_reducible refine ex_drew ?_) | (with_reducible refine ex_alloc ?_ _)))) rfl rfl ((ownl_one (Z := 0) b (by (try show Ex _ _); repeat (first | (with_reducible exact ex_refl _) | (with_reducible assumption) | (with_reducible refine ex_drewL ?_) | (with_reducible refine ex_appR ?_ _) | (with_reducible refine ex_wx ?_ _) | (with_reducible refine ex_drew ?_) | (with_reducible refine ex_alloc ?_ _))) (by simp [go_sem]) (Nat.zero_le _) (by have := HZ.out; simp at this ⊢; omega)).sls (by simp)) (by simp; omega) (by simp [go_sem] <;> omega) (fun v1 w1 hown hbe => ?_))
      refine ⟨⟨y / 128, l ++ [b], by omega, by simp, HU2, Lib.hid (by unfold OwnL; rw [List.length_append]; exact hown), ex_of_below ((ex_below (by (try show Ex _ _); repeat (first | (with_reducible exact ex_refl _) | (with_reducible assumption) | (with_reducible refine ex_drewL ?_) | (with_reducible refine ex_appR ?_ _) | (with_reducible refine ex_wx ?_ _) | (with_reducible refine ex_drew ?_) | (with_reducible refine ex_alloc ?_ _)))).trans hbe)⟩, by simp [intOf]; omega⟩
theorem owns_low {w : World} {Z Z' : Nat} {t : TypeId} {s : Nat} {v : Value} {n : Nat} {xs : List Value} (h : w.ownsRow Z t s v n xs) (hZ : Z' ≤ Z) : w.ownsRow Z' t s v n xs := by
  refine ⟨h.1, ?_⟩
  rcases h.2 with h2 | ⟨g, cap, cur, h1, h2, h3⟩
  · exact .inl h2
  · exact .inr ⟨g, cap, cur, h1, by omega, h3⟩
theorem last_own {w2 : World} {Z : Nat} {v : Value} {u : List UInt8} {a : UInt8} (b : UInt8) (hu : u.length ≤ 1000) (hO : OwnL w2 Z v (u ++ [a])) : ∃ g cap n m : Nat, v = .slice (some ⟨g, 0, none⟩) n cap ∧ Hid (n = u.length + 1 ∧ m = u.length) ∧ (n : Int) - 1 = m ∧ (m : Int) < n ∧ m ≤ 1000 ∧ n ≤ 1001 ∧
    w2.cell? ⟨g, m, none⟩ = some (B a) ∧ w2.frozen? ⟨g, m, none⟩ = false ∧ Z ≤ g ∧ g < w2.heap.size ∧ Hid ((w2.setCell ⟨g, m, none⟩ (B b)).ownsRow Z 5 1 (.slice (some ⟨g, 0, none⟩) n cap) n (Lib.byteCells (u ++ [b]))) ∧ Hid (Below Z w2 (w2.setCell ⟨g, m, none⟩ (B b))) := by
  obtain ⟨m, hm2⟩ : ∃ m, u.length = m := ⟨_, rfl⟩
  unfold OwnL at hO
  rw [← KU_flat, List.length_append, hm2, List.length_singleton] at hO
  obtain ⟨g, cap, cur, rfl, _⟩ := own_block hO (by omega) (by omega)
  obtain ⟨c1, f1, z1, z2⟩ := own_atU (i := m) (a := a) hO (by rw [List.getElem?_append_right (by omega), hm2, Nat.sub_self]; rfl)
  have hO2 := own_setU hO b (i := m) (by rw [List.length_append, hm2, List.length_singleton]; omega)
  rw [show (u ++ [a]).set m b = u ++ [b] by rw [List.set_append_right _ _ (by omega), hm2, Nat.sub_self]; rfl, KU_flat] at hO2
  exact ⟨g, cap, m + 1, m, rfl, Lib.hid ⟨by omega, by omega⟩, by omega, by omega, by omega, by omega, c1, f1, z1, z2, Lib.hid hO2.1, Lib.hid hO2.2⟩
theorem refshort_any : ∀ (x : Nat) (w : World) (hx : x < 18446744073709551616),
    Calls Tryd.prog 12 #[.int .u64 x] w (PostOw w (shortL x)) := by
  intro x
  induction x using Nat.strongRecOn with
  | ind x ih =>
    intro w hx
    by_cases hs : x < 128
    · rw [shortL_small hs]
      have e1 : (x : Int) < 128 := by omega
      have HZ : Hid (((x : Int)) = bn (UInt8.ofNat x)) := Lib.hid (by unfold bn; rw [toNat_lo hs])
      have e2 : (x : Int) % 256 = x := by omega
      clear ih
      go_enter Tryd.func12, Tryd.ntmps12
      go_wp2
      go_ret
      exact ⟨_, rfl, ownl_one _ (by (try show Ex _ _); repeat (first | (with_reducible exact ex_refl _) | (with_reducible assumption) | (with_reducible refine ex_drewL ?_) | (with_reducible refine ex_appR ?_ _) | (with_reducible refine ex_wx ?_ _) | (with_reducible refine ex_drew ?_) | (with_reducible refine ex_alloc ?_ _))) (by simp [go_sem]) (by simp [go_sem]) HZ.out, (by (try show Ex _ _); repeat (first | (with_reducible exact ex_refl _) | (with_reducible assumption) | (with_reducible refine ex_drewL ?_) | (with_reducible refine ex_appR ?_ _) | (with_reducible refine ex_wx ?_ _) | (with_reducible refine ex_drew ?_) | (with_reducible refine ex_alloc ?_ _)))⟩
    · have e1 : ¬ (x : Int) < 128 := by omega
      have HC := Lib.hid (fun w => ih (x / 128) (by omega) w (by omega))
      obtain ⟨q, hq⟩ : ∃ q, x / 128 = q := ⟨_, rfl⟩
      have hq0 : q ≠ 0 := by omega
      have e2 : ((x : Int)).tdiv 128 = q := by rw [Int.tdiv_eq_ediv_of_nonneg (by omega)]; omega
      have e3 : ((x : Int)).tmod 128 = ((x % 128 : Nat) : Int) := by rw [Int.tmod_eq_emod_of_nonneg (by omega)]; omega
      have HS : Hid (upL q ++ [UInt8.ofNat (x % 128)] = shortL x) := Lib.hid (by unfold shortL; rw [hq])
      have HZ : Hid (bn (UInt8.ofNat (x % 128)) = ((x % 128 : Nat) : Int)) := Lib.hid (by unfold bn; rw [toNat_lo (by omega)])
      have HL : Hid ((shortL x).length ≤ 10) := Lib.hid (shortL_len hx)
      have hm : x % 128 < 128 := by omega
      obtain ⟨r, hr⟩ : ∃ r, x % 128 = r := ⟨_, rfl⟩
      have HU : Hid (upL q = upL (q / 128) ++ [UInt8.ofNat (q % 128 + 128)]) := Lib.hid (upL_pos hq0)
      have HA : Hid (IntKind.u8.wrap (bn (UInt8.ofNat (q % 128)) + 128) = bn (UInt8.ofNat (q % 128 + 128))) := Lib.hid (by unfold bn; rw [toNat_lo (by omega), toNat_hi, IntKind.wrap_u8]; omega)
      have HV : Hid (shortL q = upL (q / 128) ++ [UInt8.ofNat (q % 128)]) := Lib.hid rfl
      rw [hq] at HC
      rw [hr] at HS HZ e3 hm
      have w1 : IntKind.u64.wrap (q : Int) = q := wrap_u64_nat _ (by omega)
      have w2 : IntKind.u64.wrap (r : Int) = r := wrap_u64_nat _ (by omega)
      have w3 : IntKind.u8.wrap (r : Int) = r := wrap_u8_nat _ (by omega)
      clear ih hq hr hs
      go_enter Tryd.func12, Tryd.ntmps12
      rw [HV.out] at HC
      obtain ⟨u, hu⟩ : ∃ u, upL (q / 128) = u := ⟨_, rfl⟩
      rw [hu] at HC HU
      generalize UInt8.ofNat (q % 128) = a at HC HA
      generalize UInt8.ofNat (q % 128 + 128) = b at HU HA
      generalize UInt8.ofNat r = c at HS HZ
      have HS2 : Hid (u ++ [b] ++ [c] = shortL x) := Lib.hid (by rw [← HU.out, HS.out])
      have hm10 : u.length + 2 ≤ 10 := by
        have h1 := HL.out
        rw [← HS2.out] at h1
        simp at h1
        omega
      have hOb := HA.out
      clear HU HV hu HL HS
      go_wp2_with (first | ((with_reducible refine (HC.out _).mono ?_); rintro e w2 ⟨v, rfl, hO, k⟩; obtain ⟨g, cap, n, m, rfl, N1, d1, d2, d3, d4, c1, f1, z1, z2, hO3, hB⟩ := last_own b (by omega) hO; (have hw := ex_size k); clear hO) | (at_builtin; refine wpAppB _ _ rfl rfl (owns_ex hO3.out (by (try show Ex _ _); repeat (first | (with_reducible exact ex_refl _) | (with_reducible assumption) | (with_reducible refine ex_drewL ?_) | (with_reducible refine ex_appR ?_ _) | (with_reducible refine ex_wx ?_ _) | (with_reducible refine ex_drew ?_) | (with_reducible refine ex_alloc ?_ _)))) rfl rfl ((ownl_one (Z := 0) c (by (try show Ex _ _); repeat (first | (with_reducible exact ex_refl _) | (with_reducible assumption) | (with_reducible refine ex_drewL ?_) | (with_reducible refine ex_appR ?_ _) | (with_reducible refine ex_wx ?_ _) | (with_reducible refine ex_drew ?_) | (with_reducible refine ex_alloc ?_ _))) (by simp [go_sem]) (Nat.zero_le _) HZ.out.symm).sls (by simp)) (by have := N1.out; simp; omega) (by simp [go_sem] <;> omega) (fun v1 w1 hown hbe => ?_)))
      go_ret
      have hf := hown
      rw [show n + [c].length = (u ++ [b] ++ [c]).length by have := N1.out; simp; omega, HS2.out] at hf
      exact ⟨_, rfl, hf, ex_of_below ((ex_below (k)).trans (hB.out.trans ((Below.refl _ _).alloc (by simp [go_sem]; omega) _ |>.trans hbe)))⟩
end Go.Proofs.YtpcfkjeikhehaaaDoor
