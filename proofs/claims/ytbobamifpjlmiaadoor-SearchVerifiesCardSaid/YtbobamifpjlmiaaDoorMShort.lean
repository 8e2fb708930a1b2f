import Derived.Test.YtbobamifpjlmiaaDoorMGoto
import Derived.Test.YtbobamifpjlmiaaDoorMPathR
import Derived.Test.YtbobamifpjlmiaaDoorMSeaS
import Derived.Test.YtbobamifpjlmiaaDoorMSeq

/- short; Clone of digests. -/
set_option linter.unusedSimpArgs false
set_option linter.unusedVariables false
set_option maxRecDepth 20000
namespace Go.Proofs.YtbobamifpjlmiaaDoor
open Go.RowKit
theorem wpAppS {ops : Array Oper} {rest : List Oper} {o : Oper} {a : Act} {w : World} {Q : Exit → Act → World → Prop} (s x : Operand) (hgd : o.guard = none)
    (ho : o.op = .call { callee := .builtin .append, args := #[s, x], argTypes := #[22, 22] })
    {Z : Nat} {v : Value} {l r : List Dg} {ad : Addr} {m c : Nat} (hown : OwnD w Z v l) (hs : a.eval s = v) (hx : a.eval x = .slice (some ad) m c) (hm : m = r.length) (hr : SlD w (some ad) r) (hlen : l.length + r.length ≤ 1000000) (hZ : Z ≤ w.heap.size)
    (h : ∀ v' w', OwnD w' Z v' (l ++ r) → Below Z w w' → wpList Tryd.prog ops Q rest (a.put o.dst v') w') : wpList Tryd.prog ops Q (o :: rest) a w := by
  rcases hr.out with rfl | ⟨g, off, hg, _, _⟩
  · subst hm
    refine wpApp appId s x hgd ho hown hs ad 0 c [] hx rfl (fun j u hj => by simp at hj) (fun u hu => by cases hu) (by unfold maxLen; omega) (by omega) hZ fun v' w' k1 k2 => ?_
    rw [List.append_nil] at k1
    exact h v' w' (by rw [List.append_nil]; exact k1) k2
  · cases hg
    exact wpAppD s x hgd ho hown hs hx hm hr hlen hZ h
/-- An empty row, new. -/
theorem ownd_empty {w w' : World} {Z : Nat} {v : Value} (k : Ex (w.alloc (.cells #[] 26)) w') (hv : v = .slice (some ⟨w.heap.size, 0, none⟩) 0 0) (hZ : Z ≤ w.heap.size) : OwnD w' Z v [] := by
  subst hv
  exact owns_ex (owns_new (n := 0) (cap := 0) rfl hZ (by omega) (by decide) (by simp) (by simp)) k
theorem short_any (l : List Dg) (k : Nat) (a : Option Addr) (c : Nat) (w : World) (hk : k ≤ 1000) (hc : l.length ≤ c) (hcm : c ≤ maxLen) (ha : a = none → c = 0) (hs : SlD w a l) :
    Calls Tryd.prog 16 #[.slice a l.length c, I k] w (PostO w (l.take k)) := by
  unfold maxLen at hcm
  cases a with
  | none =>
    obtain rfl := ha rfl
    obtain rfl : l = [] := List.eq_nil_of_length_eq_zero (by omega)
    rw [List.take_nil, List.length_nil]
    go_enter Tryd.func16, Tryd.ntmps16
    go_wp2
    go_ret
    exact ⟨_, rfl, ownd_empty (by (try show Ex _ _); repeat (first | (with_reducible exact ex_refl _) | (with_reducible assumption) | (with_reducible refine ex_drewL ?_) | (with_reducible refine ex_appR ?_ _) | (with_reducible refine ex_wx ?_ _) | (with_reducible refine ex_drew ?_) | (with_reducible refine ex_alloc ?_ _))) (by simp [go_sem]) (by simp [go_sem]), (by (try show Ex _ _); repeat (first | (with_reducible exact ex_refl _) | (with_reducible assumption) | (with_reducible refine ex_drewL ?_) | (with_reducible refine ex_appR ?_ _) | (with_reducible refine ex_wx ?_ _) | (with_reducible refine ex_drew ?_) | (with_reducible refine ex_alloc ?_ _)))⟩
  | some ad =>
    clear ha
    obtain ⟨m, hm⟩ : ∃ m, min l.length k = m := ⟨_, rfl⟩
    have hml : (l.take k).length = m := by rw [List.length_take]; omega
    have hst : SlD w (some ad) (l.take k) := hs.take k
    generalize l.take k = r at hml hst ⊢
    generalize l.length = n at hc hm ⊢
    have e3 : m ≤ 1000 := by omega
    have HR : Hid (m = r.length) := Lib.hid hml.symm
    clear hs hml
    by_cases hkn : k < n
    · obtain rfl : m = k := by omega
      have e2 : (m : Int) ≤ c := by omega
      have e4 : (m : Int) < n := by omega
      clear hm
      go_enter Tryd.func16, Tryd.ntmps16
      go_wp2_with (at_builtin; refine wpAppS _ _ rfl rfl (ownd_empty (Z := w.heap.size) (by (try show Ex _ _); repeat (first | (with_reducible exact ex_refl _) | (with_reducible assumption) | (with_reducible refine ex_drewL ?_) | (with_reducible refine ex_appR ?_ _) | (with_reducible refine ex_wx ?_ _) | (with_reducible refine ex_drew ?_) | (with_reducible refine ex_alloc ?_ _))) (by simp [go_sem]) (by simp [go_sem])) rfl rfl HR.out (hst.ex (by (try show Ex _ _); repeat (first | (with_reducible exact ex_refl _) | (with_reducible assumption) | (with_reducible refine ex_drewL ?_) | (with_reducible refine ex_appR ?_ _) | (with_reducible refine ex_wx ?_ _) | (with_reducible refine ex_drew ?_) | (with_reducible refine ex_alloc ?_ _)))) (by have := HR.out; simp; omega) (by simp [go_sem]) (fun v1 w1 hown hbe => ?_); obtain ⟨X1, rfl⟩ := exOf (A := w) (by (try show Ex _ _); repeat (first | (with_reducible exact ex_refl _) | (with_reducible assumption) | (with_reducible refine ex_drewL ?_) | (with_reducible refine ex_appR ?_ _) | (with_reducible refine ex_wx ?_ _) | (with_reducible refine ex_drew ?_) | (with_reducible refine ex_alloc ?_ _))) hbe)
      go_ret
      exact ⟨_, rfl, by simpa using hown, (by (try show Ex _ _); repeat (first | (with_reducible exact ex_refl _) | (with_reducible assumption) | (with_reducible refine ex_drewL ?_) | (with_reducible refine ex_appR ?_ _) | (with_reducible refine ex_wx ?_ _) | (with_reducible refine ex_drew ?_) | (with_reducible refine ex_alloc ?_ _)))⟩
    · obtain rfl : m = n := by omega
      have e2 : (m : Int) ≤ c := by omega
      have e4 : ¬ (k : Int) < m := by omega
      clear hm
      go_enter Tryd.func16, Tryd.ntmps16
      go_wp2_with (at_builtin; refine wpAppS _ _ rfl rfl (ownd_empty (Z := w.heap.size) (by (try show Ex _ _); repeat (first | (with_reducible exact ex_refl _) | (with_reducible assumption) | (with_reducible refine ex_drewL ?_) | (with_reducible refine ex_appR ?_ _) | (with_reducible refine ex_wx ?_ _) | (with_reducible refine ex_drew ?_) | (with_reducible refine ex_alloc ?_ _))) (by simp [go_sem]) (by simp [go_sem])) rfl rfl HR.out (hst.ex (by (try show Ex _ _); repeat (first | (with_reducible exact ex_refl _) | (with_reducible assumption) | (with_reducible refine ex_drewL ?_) | (with_reducible refine ex_appR ?_ _) | (with_reducible refine ex_wx ?_ _) | (with_reducible refine ex_drew ?_) | (with_reducible refine ex_alloc ?_ _)))) (by have := HR.out; simp; omega) (by simp [go_sem]) (fun v1 w1 hown hbe => ?_); obtain ⟨X1, rfl⟩ := exOf (A := w) (by (try show Ex _ _); repeat (first | (with_reducible exact ex_refl _) | (with_reducible assumption) | (with_reducible refine ex_drewL ?_) | (with_reducible refine ex_appR ?_ _) | (with_reducible refine ex_wx ?_ _) | (with_reducible refine ex_drew ?_) | (with_reducible refine ex_alloc ?_ _))) hbe)
      go_ret
      exact ⟨_, rfl, by simpa using hown, (by (try show Ex _ _); repeat (first | (with_reducible exact ex_refl _) | (with_reducible assumption) | (with_reducible refine ex_drewL ?_) | (with_reducible refine ex_appR ?_ _) | (with_reducible refine ex_wx ?_ _) | (with_reducible refine ex_drew ?_) | (with_reducible refine ex_alloc ?_ _)))⟩
@[go_sem high] theorem eqlnil_id (a : Option Addr) (n c : Nat) (w : World) : (binOp .eql 22 (.slice a n c) (.slice none 0 0)).run Tryd.prog w = .ok (.bool a.isNone) w := _root_.Go.run_eql_slice_nil w _ _ a n c Tryd.underlying22
/-- Clone of digests of the call's own, not nil. -/
theorem cloned_any (l : List Dg) (a : Option Addr) (c : Nat) (w : World) (hl : l.length ≤ 1000) (hc : l.length ≤ c) (hcm : c ≤ maxLen) (ha : a = none → c = 0) (hs : SlD w a l) :
    Calls Tryd.prog 33 #[.slice a l.length c] w (PostO w l) := by
  unfold maxLen at hcm
  cases a with
  | none =>
    obtain rfl := ha rfl
    obtain rfl : l = [] := List.eq_nil_of_length_eq_zero (by omega)
    rw [List.length_nil]
    go_enter Tryd.func33, Tryd.ntmps33
    go_wp2
    go_ret
    exact ⟨_, rfl, ownd_nil _ _, (by (try show Ex _ _); repeat (first | (with_reducible exact ex_refl _) | (with_reducible assumption) | (with_reducible refine ex_drewL ?_) | (with_reducible refine ex_appR ?_ _) | (with_reducible refine ex_wx ?_ _) | (with_reducible refine ex_drew ?_) | (with_reducible refine ex_alloc ?_ _)))⟩
  | some ad =>
    clear ha
    have HR : Hid (l.length = l.length) := Lib.hid rfl
    go_enter Tryd.func33, Tryd.ntmps33
    go_wp2_with (at_builtin; refine wpAppS _ _ rfl rfl (ownd_empty (Z := w.heap.size) (by (try show Ex _ _); repeat (first | (with_reducible exact ex_refl _) | (with_reducible assumption) | (with_reducible refine ex_drewL ?_) | (with_reducible refine ex_appR ?_ _) | (with_reducible refine ex_wx ?_ _) | (with_reducible refine ex_drew ?_) | (with_reducible refine ex_alloc ?_ _))) (by simp [go_sem]) (by simp [go_sem])) rfl rfl HR.out (hs.ex (by (try show Ex _ _); repeat (first | (with_reducible exact ex_refl _) | (with_reducible assumption) | (with_reducible refine ex_drewL ?_) | (with_reducible refine ex_appR ?_ _) | (with_reducible refine ex_wx ?_ _) | (with_reducible refine ex_drew ?_) | (with_reducible refine ex_alloc ?_ _)))) (by simp; omega) (by simp [go_sem]) (fun v1 w1 hown hbe => ?_); obtain ⟨X1, rfl⟩ := exOf (A := w) (by (try show Ex _ _); repeat (first | (with_reducible exact ex_refl _) | (with_reducible assumption) | (with_reducible refine ex_drewL ?_) | (with_reducible refine ex_appR ?_ _) | (with_reducible refine ex_wx ?_ _) | (with_reducible refine ex_drew ?_) | (with_reducible refine ex_alloc ?_ _))) hbe)
    go_ret
    exact ⟨_, rfl, by simpa using hown, (by (try show Ex _ _); repeat (first | (with_reducible exact ex_refl _) | (with_reducible assumption) | (with_reducible refine ex_drewL ?_) | (with_reducible refine ex_appR ?_ _) | (with_reducible refine ex_wx ?_ _) | (with_reducible refine ex_drew ?_) | (with_reducible refine ex_alloc ?_ _)))⟩
end Go.Proofs.YtbobamifpjlmiaaDoor

/- Slices of pairs; what goes through them. -/
set_option linter.unusedSimpArgs false
set_option linter.unusedVariables false
set_option maxRecDepth 20000
namespace Go.Proofs.YtbobamifpjlmiaaDoor
open Go.RowKit
def PC (p : Pr) : Array Value := #[.string p.1, .string p.2]
theorem PC_size (p : Pr) : (PC p).size = 2 := rfl
structure SlP (w : World) (a : Option Addr) (l : List Pr) : Prop where
  out : l = [] ∨ ∃ g off, a = some ⟨g, off, none⟩ ∧ g < w.heap.size ∧ ∀ i d, l[i]? = some d → cellsN w g (off + i * 2) 2 = some (PC d)
theorem SlP.ex {w w' : World} {a : Option Addr} {l : List Pr} (h : SlP w a l) (k : Ex w w') : SlP w' a l := by
  obtain ⟨X, rfl⟩ := k
  rcases h.out with h | ⟨g, off, h1, h2, h3⟩
  · exact ⟨Or.inl h⟩
  · refine ⟨Or.inr ⟨g, off, h1, by rw [wx_size]; omega, fun i d hd => ?_⟩⟩
    rw [cellsN_congr fun j _ => wx_cell w X _ h2]; exact h3 i d hd
theorem SlP.pos {w : World} {a : Option Addr} {l : List Pr} (h : SlP w a l) (hn : 0 < l.length) : ∃ g off, a = some ⟨g, off, none⟩ ∧ g < w.heap.size ∧ ∀ i d, l[i]? = some d → cellsN w g (off + i * 2) 2 = some (PC d) := by
  rcases h.out with rfl | h
  · simp at hn
  · exact h
theorem SlP.nil (w : World) (a : Option Addr) : SlP w a [] := ⟨Or.inl rfl⟩
theorem SlP.take {w : World} {a : Option Addr} {l : List Pr} (h : SlP w a l) (k : Nat) : SlP w a (l.take k) := by
  rcases h.out with rfl | ⟨g, off, h1, h2, h3⟩
  · exact ⟨Or.inl (by simp)⟩
  · refine ⟨Or.inr ⟨g, off, h1, h2, fun i d hd => ?_⟩⟩
    rw [List.getElem?_take] at hd
    split at hd
    · exact h3 i d hd
    · cases hd
theorem SlP.drop {w : World} {g off : Nat} {l : List Pr} (h : SlP w (some ⟨g, off, none⟩) l) (k : Nat) : SlP w (some ⟨g, off + k * 2, none⟩) (l.drop k) := by
  rcases h.out with rfl | ⟨g', off', h1, h2, h3⟩
  · exact ⟨Or.inl (by simp)⟩
  · cases h1
    refine ⟨Or.inr ⟨g, _, rfl, h2, fun i d hd => ?_⟩⟩
    rw [List.getElem?_drop] at hd
    rw [Nat.add_assoc, ← Nat.add_mul]
    exact h3 _ d hd
theorem SlP.at {w : World} {g off : Nat} {l : List Pr} (h : SlP w (some ⟨g, off, none⟩) l) {i : Nat} {d : Pr} (hd : l[i]? = some d) : cellsN w g (off + i * 2) 2 = some (PC d) ∧ g < w.heap.size := by
  rcases h.out with rfl | ⟨g', off', h1, h2, h3⟩
  · simp at hd
  · cases h1; exact ⟨h3 i d hd, h2⟩
theorem prAt_get {l : List Pr} {i : Nat} (h : i < l.length) : l[i]? = some (prAt l i) := by
  unfold prAt; rw [List.getD_eq_getElem?_getD, List.getElem?_eq_getElem h]; rfl
theorem SlP.row {w : World} {a : Option Addr} {l : List Pr} (h : SlP w a l) {i : Nat} (hi : i < l.length) : ∃ g off, a = some ⟨g, off, none⟩ ∧ g < w.heap.size ∧ cellsN w g (off + i * 2) 2 = some (PC (prAt l i)) ∧
    w.cell? ⟨g, off + i * 2, none⟩ = some (.string (prAt l i).1) ∧ w.cell? ⟨g, off + i * 2 + 1, none⟩ = some (.string (prAt l i).2) := by
  obtain ⟨g, off, h1, h2, h3⟩ := h.pos (by omega)
  have h4 := h3 i _ (prAt_get hi)
  have h5 := (cellsN_some.1 h4).2
  exact ⟨g, off, h1, h2, h4, (by have := h5 0 (by omega); simpa [PC] using this), (by have := h5 1 (by omega); simpa [PC] using this)⟩
def KP (p : Pr) : List Value := [.string p.1, .string p.2]
theorem KP_len (p : Pr) : (KP p).length = 2 := rfl
@[go_sem] theorem KP_back (p : Pr) : (KP p).toArray = PC p := rfl
/-- A row of pairs of the call's own. -/
def OwnP (w : World) (Z : Nat) (v : Value) (l : List Pr) : Prop := w.ownsRow Z 80 2 v l.length (l.flatMap KP)
theorem appCell : AppT Tryd.prog 53 80 2 32 (.agg #[.string ⟨#[]⟩, .string ⟨#[]⟩]) := ⟨Tryd.underlying53, by kernel_rfl, by simp [Value.cells], by decide⟩
theorem KP_one (l : List Pr) : ∀ u ∈ l.flatMap KP, u.oneCell' = true := by
  intro u hu
  simp only [List.mem_flatMap] at hu
  obtain ⟨d, _, hd⟩ := hu
  rcases (by simpa [KP] using hd : u = .string d.1 ∨ u = .string d.2) with rfl | rfl <;> rfl
theorem slp_news {w : World} {g off : Nat} {r : List Pr} (h : SlP w (some ⟨g, off, none⟩) r) : ∀ (j : Nat) (u : Value), (r.flatMap KP)[j]? = some u → w.cell? ((⟨g, off, none⟩ : Addr).add j) = some u := by
  intro j u hj
  have hlt : j < r.length * 2 := by
    have := (List.getElem?_eq_some_iff.1 hj).1
    rwa [flat_len KP_len] at this
  have hadd : (⟨g, off, none⟩ : Addr).add j = ⟨g, off + j, none⟩ := by unfold Addr.add; split <;> simp_all
  have hi : r[j / 2]? = some (r[j / 2]'(by omega)) := List.getElem?_eq_getElem _
  have h1 := (h.at hi).1
  have h2 := flat_get KP_len r (j / 2) _ (j % 2) hi (by omega)
  rw [show j / 2 * 2 + j % 2 = j by omega, hj] at h2
  have h3 := (cellsN_some.1 h1).2 (j % 2) (by omega)
  rw [hadd, show off + j = off + j / 2 * 2 + j % 2 by omega, h3, ← KP_back, List.getElem?_toArray]
  exact h2.symm
theorem wpAppP {ops : Array Oper} {rest : List Oper} {o : Oper} {a : Act} {w : World} {Q : Exit → Act → World → Prop} (s x : Operand) (hgd : o.guard = none)
    (ho : o.op = .call { callee := .builtin .append, args := #[s, x], argTypes := #[53, 53] })
    {Z : Nat} {v : Value} {l r : List Pr} {ad : Addr} {m c : Nat} (hown : OwnP w Z v l) (hs : a.eval s = v) (hx : a.eval x = .slice (some ad) m c) (hm : m = r.length) (hr : SlP w (some ad) r) (hlen : l.length + r.length ≤ 1000000) (hZ : Z ≤ w.heap.size)
    (h : ∀ v' w', OwnP w' Z v' (l ++ r) → Below Z w w' → wpList Tryd.prog ops Q rest (a.put o.dst v') w') : wpList Tryd.prog ops Q (o :: rest) a w := by
  subst hm
  refine wpApp appCell s x hgd ho hown hs ad r.length c (r.flatMap KP) hx (flat_len KP_len r) ?_ (KP_one r) (by unfold maxLen; omega) (by omega) hZ fun v' w' k1 k2 => ?_
  · rcases hr.out with rfl | ⟨g, off, hg, _, _⟩
    · intro j u hj; simp at hj
    · cases hg; exact slp_news hr
  · rw [← List.flatMap_append, ← List.length_append] at k1
    exact h v' w' k1 k2
theorem ownp_nil (w : World) (Z : Nat) : OwnP w Z (.slice none 0 0) [] := owns_nil _ _ _ _
theorem OwnP.ex {w w' : World} {Z : Nat} {v : Value} {l : List Pr} (h : OwnP w Z v l) (k : Ex w w') : OwnP w' Z v l := owns_ex h k
theorem ownp_empty {w w' : World} {Z : Nat} {v : Value} (k : Ex (w.alloc (.cells #[] 80)) w') (hv : v = .slice (some ⟨w.heap.size, 0, none⟩) 0 0) (hZ : Z ≤ w.heap.size) : OwnP w' Z v [] := by
  subst hv
  exact owns_ex (owns_new (n := 0) (cap := 0) rfl hZ (by omega) (by decide) (by simp) (by simp)) k
theorem OwnP.slg {w : World} {Z : Nat} {v : Value} {l : List Pr} (h : OwnP w Z v l) : ∃ a c, v = .slice a l.length c ∧ l.length ≤ c ∧ c ≤ maxLen ∧ (a = none → c = 0) ∧ SlP w a l := by
  obtain ⟨a, c, rfl, k1, k2, k3⟩ := own_form h
  refine ⟨a, c, rfl, k1, k2, k3, ?_⟩
  rcases Nat.eq_zero_or_pos l.length with h0 | hpos
  · rw [List.eq_nil_of_length_eq_zero h0]; exact SlP.nil _ _
  · obtain ⟨g, cap, cur, hv, _⟩ := own_block h hpos (by omega)
    obtain ⟨rfl, rfl⟩ : a = some ⟨g, 0, none⟩ ∧ c = cap := by simpa using hv
    refine ⟨Or.inr ⟨g, 0, rfl, (h.lt g rfl).2, fun i d hd => ?_⟩⟩
    have := (own_at KP_len h hd).1
    rw [KP_back] at this
    rwa [Nat.zero_add]
def overP (l : List Pr) : Bool := decide (300 < l.length) || l.any fun p => decide (3000 < p.1.size) || decide (3000 < p.2.size)
theorem overP_bad {l : List Pr} {i : Nat} (hi : i < l.length) (h : 3000 < (prAt l i).1.size ∨ 3000 < (prAt l i).2.size) : overP l = true := by
  have hm : prAt l i ∈ l := List.mem_of_getElem? (prAt_get hi)
  simp only [overP, Bool.or_eq_true, List.any_eq_true, decide_eq_true_eq]
  exact .inr ⟨_, hm, h⟩
theorem overP_ok {l : List Pr} (h : l.length ≤ 300) (h2 : ∀ i, i < l.length → (prAt l i).1.size ≤ 3000 ∧ (prAt l i).2.size ≤ 3000) : overP l = false := by
  simp only [overP, Bool.or_eq_false_iff, decide_eq_false_iff_not, List.any_eq_false, Bool.or_eq_true, decide_eq_true_eq]
  refine ⟨by omega, fun p hp => ?_⟩
  obtain ⟨i, hi⟩ := List.mem_iff_getElem?.1 hp
  have hl := (List.getElem?_eq_some_iff.1 hi).1
  rw [prAt_get hl] at hi
  obtain rfl := Option.some.inj hi
  have := h2 i hl
  omega
theorem overP_any (l : List Pr) (a : Option Addr) (c : Nat) (w : World) (hc : l.length ≤ c) (hcm : c ≤ maxLen) (hs : SlP w a l) :
    Calls Tryd.prog 35 #[.slice a l.length c] w (Post w (.bool (overP l))) := by
  have HB : Hid (∀ i, i < l.length → (3000 < (prAt l i).1.size ∨ 3000 < (prAt l i).2.size) → overP l = true) := Lib.hid fun i hi h => overP_bad hi h
  have HO : Hid (l.length ≤ 300 → (∀ i, i < l.length → (prAt l i).1.size ≤ 3000 ∧ (prAt l i).2.size ≤ 3000) → overP l = false) := Lib.hid overP_ok
  have H3 : Hid (300 < l.length → overP l = true) := Lib.hid fun h => by simp [overP, h]
  have HS : Hid (∀ W, Ex w W → ∀ i, i < l.length → ∃ g off, a = some ⟨g, off, none⟩ ∧ g < W.heap.size ∧ cellsN W g (off + i * 2) 2 = some (PC (prAt l i)) ∧ W.cell? ⟨g, off + i * 2, none⟩ = some (.string (prAt l i).1) ∧ W.cell? ⟨g, off + i * 2 + 1, none⟩ = some (.string (prAt l i).2)) := Lib.hid fun W k i hi => (hs.ex k).row hi
  generalize overP l = ov at HB HO H3 ⊢
  generalize l.length = n at HB HO H3 HS hc ⊢
  generalize prAt l = pr at HB HO HS
  clear hs
  unfold maxLen at hcm
  by_cases h300 : 300 < n
  · obtain rfl := H3.out h300
    have h1 : (300 : Int) < n := by omega
    clear H3 HB HO HS
    go_enter Tryd.func35, Tryd.ntmps35
    go_wp2
    go_ret
    exact post_mk rfl (by (try show Ex _ _); repeat (first | (with_reducible exact ex_refl _) | (with_reducible assumption) | (with_reducible refine ex_drewL ?_) | (with_reducible refine ex_appR ?_ _) | (with_reducible refine ex_wx ?_ _) | (with_reducible refine ex_drew ?_) | (with_reducible refine ex_alloc ?_ _)))
  · have h1 : ¬ (300 : Int) < n := by omega
    clear H3
    go_enter Tryd.func35, Tryd.ntmps35
    go_wp2
    go_loopw [10] (fun i wr => ∃ k : Nat, k ≤ n ∧ i = I k ∧ Hid (∀ i, i < k → (pr i).1.size ≤ 3000 ∧ (pr i).2.size ≤ 3000) ∧ Ex w wr) (fun i _ => n - (intOf i).toNat)
    case atStart => exact ⟨0, by omega, rfl, Lib.hid (fun i hi => absurd hi (by omega)), (by (try show Ex _ _); repeat (first | (with_reducible exact ex_refl _) | (with_reducible assumption) | (with_reducible refine ex_drewL ?_) | (with_reducible refine ex_appR ?_ _) | (with_reducible refine ex_wx ?_ _) | (with_reducible refine ex_drew ?_) | (with_reducible refine ex_alloc ?_ _)))⟩
    case round =>
      obtain ⟨k, hk, rfl, HK, kr⟩ := hrel
      by_cases hlt : k < n
      · obtain ⟨g, off, rfl, r1, r2, r3, r4⟩ := HS.out wr kr k hlt
        have HBk := Lib.hid (HB.out k hlt)
        have HK2 : Hid ((pr k).1.size ≤ 3000 → (pr k).2.size ≤ 3000 → ∀ i, i < k + 1 → (pr i).1.size ≤ 3000 ∧ (pr i).2.size ≤ 3000) := Lib.hid fun h1 h2 i hi => by
          rcases Nat.lt_or_ge i k with h | h
          · exact HK.out i h
          · obtain rfl : i = k := by omega
            exact ⟨h1, h2⟩
        clear HK HB HO HS
        generalize pr k = p at r2 r3 r4 HBk HK2
        obtain ⟨s, t⟩ := p
        simp only at r3 r4 HBk HK2
        by_cases c1 : 3000 < s.size
        · obtain rfl := HBk.out (.inl c1)
          have d1 : (3000 : Int) < s.size := by omega
          clear HBk HK2
          unfold PC at r2
          go_wp2
          go_ret
          exact post_mk rfl (by (try show Ex _ _); repeat (first | (with_reducible exact ex_refl _) | (with_reducible assumption) | (with_reducible refine ex_drewL ?_) | (with_reducible refine ex_appR ?_ _) | (with_reducible refine ex_wx ?_ _) | (with_reducible refine ex_drew ?_) | (with_reducible refine ex_alloc ?_ _)))
        · have d1 : ¬ (3000 : Int) < s.size := by omega
          by_cases c2 : 3000 < t.size
          · obtain rfl := HBk.out (.inr c2)
            have d2 : (3000 : Int) < t.size := by omega
            clear HBk HK2
            unfold PC at r2
            go_wp2
            go_ret
            exact post_mk rfl (by (try show Ex _ _); repeat (first | (with_reducible exact ex_refl _) | (with_reducible assumption) | (with_reducible refine ex_drewL ?_) | (with_reducible refine ex_appR ?_ _) | (with_reducible refine ex_wx ?_ _) | (with_reducible refine ex_drew ?_) | (with_reducible refine ex_alloc ?_ _)))
          · have d2 : ¬ (3000 : Int) < t.size := by omega
            have HK3 := Lib.hid (HK2.out (by omega) (by omega))
            clear HBk HK2
            unfold PC at r2
            go_wp2
            refine ⟨⟨k + 1, by omega, by go_num, HK3, (by (try show Ex _ _); repeat (first | (with_reducible exact ex_refl _) | (with_reducible assumption) | (with_reducible refine ex_drewL ?_) | (with_reducible refine ex_appR ?_ _) | (with_reducible refine ex_wx ?_ _) | (with_reducible refine ex_drew ?_) | (with_reducible refine ex_alloc ?_ _)))⟩, by simp [intOf]; omega⟩
      · obtain rfl : k = n := by omega
        obtain rfl := HO.out (by omega) HK.out
        clear hlt hk HB HS
        go_wp2
        go_ret
        exact post_mk rfl (by (try show Ex _ _); repeat (first | (with_reducible exact ex_refl _) | (with_reducible assumption) | (with_reducible refine ex_drewL ?_) | (with_reducible refine ex_appR ?_ _) | (with_reducible refine ex_wx ?_ _) | (with_reducible refine ex_drew ?_) | (with_reducible refine ex_alloc ?_ _)))
end Go.Proofs.YtbobamifpjlmiaaDoor
