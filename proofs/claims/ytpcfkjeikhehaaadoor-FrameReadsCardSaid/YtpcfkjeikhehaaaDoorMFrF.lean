import Derived.Test.YtpcfkjeikhehaaaDoorMCat

/- Rows of entries and of numbers of the call's own; few. -/
set_option linter.unusedSimpArgs false
set_option linter.unusedVariables false
set_option maxRecDepth 20000
namespace Go.Proofs.YtpcfkjeikhehaaaDoor
open Go.RowKit
/-! ### bytes.Equal -/
theorem conv_slt {w : World} {v : Value} {l : List UInt8} (h : SlT w v l) : (convert 27 9 v).run Tryd.prog w = .ok (.string ⟨l.toArray⟩) w := by
  obtain ⟨a, c, rfl, h1, h2, h3, h4⟩ := h.out
  cases a with
  | none =>
    obtain rfl := h3 rfl
    obtain rfl : l = [] := List.eq_nil_of_length_eq_zero (by omega)
    rw [List.length_nil, Lib.run_convert_nil_bytes w _ _ _ 0 Tryd.underlying27 Tryd.underlying5 Tryd.underlying9]
  | some ad =>
    refine run_convert_bytes_back w _ _ _ ad c l Tryd.underlying27 Tryd.underlying5 Tryd.underlying9 fun j hj => ?_
    exact sll_news h4 (ex_refl _) j _ (by simp [Lib.byteCells, List.getElem?_eq_getElem hj])
theorem beq_bytes (l m : List UInt8) : ((⟨l.toArray⟩ : ByteArray) == ⟨m.toArray⟩) = decide (l = m) := by
  rw [Bool.eq_iff_iff, decide_eq_true_eq]
  have h : ((⟨l.toArray⟩ : ByteArray) == ⟨m.toArray⟩) = (l.toArray == m.toArray) := rfl
  rw [h, beq_iff_eq]
  exact ⟨fun h => by simpa using h, fun h => by rw [h]⟩
theorem bytesEqual_any (l m : List UInt8) (v u : Value) (w : World) (hs : SlT w v l) (ht : SlT w u m) :
    Calls Tryd.prog 23 #[v, u] w (Post w (.bool (decide (l = m)))) := by
  have c1 := conv_slt hs
  have c2 := conv_slt ht
  have e1 : (l == m) = decide (l = m) := by rw [Bool.eq_iff_iff, beq_iff_eq, decide_eq_true_eq]
  rw [← e1]
  clear hs ht e1
  go_enter Tryd.func23, Tryd.ntmps23
  go_wp2
  go_ret
  exact post_mk rfl (by (try show Ex _ _); repeat (first | (with_reducible exact ex_refl _) | (with_reducible assumption) | (with_reducible refine ex_drewL ?_) | (with_reducible refine ex_appR ?_ _) | (with_reducible refine ex_wx ?_ _) | (with_reducible refine ex_drew ?_) | (with_reducible refine ex_alloc ?_ _)))
/-! ### Rows of numbers -/
def KI (n : Int) : List Value := [I n]
theorem KI_len (n : Int) : (KI n).length = 1 := rfl
def OwnI (w : World) (Z : Nat) (v : Value) (l : List Int) : Prop := w.ownsRow Z 3 1 v l.length (l.flatMap KI)
theorem appint : AppT Tryd.prog 37 3 1 8 (.int .i64 0) := ⟨Tryd.underlying37, by kernel_rfl, rfl, by decide⟩
@[go_sem high] theorem eqlnil_int (a : Option Addr) (n c : Nat) (w : World) : (binOp .eql 37 (.slice a n c) (.slice none 0 0)).run Tryd.prog w = .ok (.bool a.isNone) w := _root_.Go.run_eql_slice_nil w _ _ a n c Tryd.underlying37
theorem KI_one (l : List Int) : ∀ u ∈ l.flatMap KI, u.oneCell' = true := by
  intro u hu
  simp only [List.mem_flatMap] at hu
  obtain ⟨d, _, hd⟩ := hu
  obtain rfl : u = I d := by simpa [KI] using hd
  rfl
theorem KI_get (l : List Int) (j : Nat) : (l.flatMap KI)[j]? = (l[j]?).map I := by
  induction l generalizing j with
  | nil => simp
  | cons a l ih =>
    rw [List.flatMap_cons]
    cases j with
    | zero => simp [KI]
    | succ j => simp [KI, ih]
theorem sli_news {w : World} {ad : Addr} {l : List Int} (h : SlI w (some ad) l) : ∀ (j : Nat) (u : Value), (l.flatMap KI)[j]? = some u → w.cell? (ad.add j) = some u := by
  intro j u hu
  rw [KI_get] at hu
  obtain ⟨x, hx, rfl⟩ := Option.map_eq_some_iff.1 hu
  rcases h.out with rfl | ⟨g, off, h1, h2, h3⟩
  · simp at hx
  · obtain rfl : ad = ⟨g, off, none⟩ := Option.some.inj h1
    have hadd : (⟨g, off, none⟩ : Addr).add j = ⟨g, off + j, none⟩ := by unfold Addr.add; split <;> simp_all
    rw [hadd]
    exact h3 j x hx
theorem OwnI.slz {w : World} {Z : Nat} {v : Value} {l : List Int} (h : OwnI w Z v l) : SlZ w v l := by
  obtain ⟨a, c, rfl, k1, k2, k3⟩ := own_form h
  refine ⟨a, c, rfl, k1, k2, k3, ?_⟩
  rcases Nat.eq_zero_or_pos l.length with h0 | hpos
  · rw [List.eq_nil_of_length_eq_zero h0]; exact ⟨Or.inl rfl⟩
  · obtain ⟨g, cap, cur, hv, _⟩ := own_block h hpos (by omega)
    obtain ⟨rfl, rfl⟩ : a = some ⟨g, 0, none⟩ ∧ c = cap := by simpa using hv
    refine ⟨Or.inr ⟨g, 0, rfl, (h.lt g rfl).2, fun i x hx => ?_⟩⟩
    have h1 := (own_at KI_len h hx).1
    have h2 := (cellsN_some.1 h1).2 0 (by omega)
    rw [Nat.mul_one, Nat.add_zero] at h2
    rw [Nat.zero_add, h2]; rfl
theorem ownI_nil (w : World) (Z : Nat) : OwnI w Z (.slice none 0 0) [] := owns_nil _ _ _ _
theorem ownI_empty {w w' : World} {Z g : Nat} (k : Ex (w.alloc (.cells #[] 3)) w') (hg : g = w.heap.size) (hZ : Z ≤ w.heap.size) : OwnI w' Z (.slice (some ⟨g, 0, none⟩) 0 0) [] := by
  subst hg
  exact owns_ex (owns_new (n := 0) (cap := 0) rfl hZ (by omega) (by decide) (by simp) (by simp)) k
theorem wpAppZ {ops : Array Oper} {rest : List Oper} {o : Oper} {a : Act} {w : World} {Q : Exit → Act → World → Prop} (s x : Operand) (hgd : o.guard = none)
    (ho : o.op = .call { callee := .builtin .append, args := #[s, x], argTypes := #[37, 37] })
    {Z : Nat} {v : Value} {l r : List Int} {ad : Addr} {m c : Nat} (hown : OwnI w Z v l) (hs : a.eval s = v) (hx : a.eval x = .slice (some ad) m c) (hm : m = r.length) (hr : SlI w (some ad) r) (hlen : l.length + r.length ≤ 1000000) (hZ : Z ≤ w.heap.size)
    (h : ∀ v' w', OwnI w' Z v' (l ++ r) → Below Z w w' → wpList Tryd.prog ops Q rest (a.put o.dst v') w') : wpList Tryd.prog ops Q (o :: rest) a w := by
  subst hm
  refine wpApp appint s x hgd ho hown hs ad r.length c (r.flatMap KI) hx (by rw [flat_len KI_len]) (sli_news hr) (KI_one r) (by unfold maxLen; omega) (by omega) hZ fun v' w' k1 k2 => ?_
  rw [← List.flatMap_append, ← List.length_append] at k1
  exact h v' w' k1 k2
theorem exOfB {A w w' : World} (k : Ex A w) (hb : Below A.heap.size w w') : ∃ X, w' = wx A X := ex_of_below ((ex_below k).trans hb)
theorem cloneI_any (l : List Int) (v : Value) (w : World) (hs : SlZ w v l) (hl : l.length ≤ 1000) :
    Calls Tryd.prog 30 #[v] w fun e w' => ∃ v', e = .returned v' ∧ OwnI w' w.heap.size v' l ∧ Ex w w' := by
  obtain ⟨a, c, rfl, h1, h2, h3, h4⟩ := id hs.out
  clear hs
  cases a with
  | none =>
    obtain rfl := h3 rfl
    obtain rfl : l = [] := List.eq_nil_of_length_eq_zero (by omega)
    rw [List.length_nil]
    go_enter Tryd.func30, Tryd.ntmps30
    go_wp2
    go_ret
    exact ⟨_, rfl, ownI_nil _ _, (by (try show Ex _ _); repeat (first | (with_reducible exact ex_refl _) | (with_reducible assumption) | (with_reducible refine ex_drewL ?_) | (with_reducible refine ex_appR ?_ _) | (with_reducible refine ex_wx ?_ _) | (with_reducible refine ex_drew ?_) | (with_reducible refine ex_alloc ?_ _)))⟩
  | some ad =>
    clear h3
    have HS := Lib.hid (fun w' (k : Ex w w') => h4.ex k)
    clear h4
    go_enter Tryd.func30, Tryd.ntmps30
    go_wp2_with (at_builtin; refine wpAppZ (Z := w.heap.size) _ _ rfl rfl (ownI_empty (by (try show Ex _ _); repeat (first | (with_reducible exact ex_refl _) | (with_reducible assumption) | (with_reducible refine ex_drewL ?_) | (with_reducible refine ex_appR ?_ _) | (with_reducible refine ex_wx ?_ _) | (with_reducible refine ex_drew ?_) | (with_reducible refine ex_alloc ?_ _))) (by simp [go_sem]) (by simp [go_sem])) rfl rfl rfl (HS.out _ (by (try show Ex _ _); repeat (first | (with_reducible exact ex_refl _) | (with_reducible assumption) | (with_reducible refine ex_drewL ?_) | (with_reducible refine ex_appR ?_ _) | (with_reducible refine ex_wx ?_ _) | (with_reducible refine ex_drew ?_) | (with_reducible refine ex_alloc ?_ _)))) (by simp; omega) (by simp [go_sem]) (fun v1 w1 hown hB => ?_); obtain ⟨X1, rfl⟩ := exOfB (A := w) (by (try show Ex _ _); repeat (first | (with_reducible exact ex_refl _) | (with_reducible assumption) | (with_reducible refine ex_drewL ?_) | (with_reducible refine ex_appR ?_ _) | (with_reducible refine ex_wx ?_ _) | (with_reducible refine ex_drew ?_) | (with_reducible refine ex_alloc ?_ _))) hB)
    go_ret
    exact ⟨v1, rfl, by simpa using hown, (by (try show Ex _ _); repeat (first | (with_reducible exact ex_refl _) | (with_reducible assumption) | (with_reducible refine ex_drewL ?_) | (with_reducible refine ex_appR ?_ _) | (with_reducible refine ex_wx ?_ _) | (with_reducible refine ex_drew ?_) | (with_reducible refine ex_alloc ?_ _)))⟩
end Go.Proofs.YtpcfkjeikhehaaaDoor

/- Rows of entries of the call's own. -/
set_option linter.unusedSimpArgs false
set_option linter.unusedVariables false
set_option maxRecDepth 20000
namespace Go.Proofs.YtpcfkjeikhehaaaDoor
open Go.RowKit
abbrev EnV := UInt64 × Int × Value
def KE (e : EnV) : List Value := [L e.1, I e.2.1, e.2.2]
theorem KE_len (e : EnV) : (KE e).length = 3 := rfl
/-- No cell of a block is shared with a text. -/
def NoFz (w : World) (g : Nat) : Prop := ∀ o, w.frozen? ⟨g, o, none⟩ = false
theorem NoFz.same {w w' : World} {g : Nat} (h : NoFz w g) (k : w'.heap[g]? = w.heap[g]?) : NoFz w' g := fun o => by
  have := h o
  simpa only [World.frozen?, k] using this
theorem own_nofz {w : World} {Z : Nat} {t : TypeId} {s : Nat} {v : Value} {n : Nat} {xs : List Value} (h : w.ownsRow Z t s v n xs) {g : Nat} (hg : v.ownBlock = some g) : NoFz w g := by
  rcases h.2 with ⟨rfl, _⟩ | ⟨g', cap, cur, rfl, _, hb, _⟩
  · cases hg
  · obtain rfl : g' = g := Option.some.inj hg
    intro o
    simp [World.frozen?, hb]
/-- A row of entries of the call's own, whose data lie in other blocks. -/
structure OwnE (w : World) (Z : Nat) (v : Value) (l : List En) : Prop where
  out : ∃ es : List EnV, es.length = l.length ∧ w.ownsRow Z 60 3 v es.length (es.flatMap KE) ∧
    ∀ (i : Nat) (e : En), l[i]? = some e → ∃ dv, es[i]? = some (e.1, e.2.1, dv) ∧ SlT w dv e.2.2 ∧ ∀ g, dv.ownBlock = some g → Z ≤ g ∧ g < w.heap.size ∧ v.ownBlock ≠ some g ∧ NoFz w g
theorem appEn : AppT Tryd.prog 36 60 3 40 (.agg #[.int .u64 0, .int .i64 0, .slice none 0 0]) := ⟨Tryd.underlying36, by kernel_rfl, by simp [Value.cells], by decide⟩
theorem OwnE.ex {w w' : World} {Z : Nat} {v : Value} {l : List En} (h : OwnE w Z v l) (k : Ex w w') : OwnE w' Z v l := by
  obtain ⟨es, h1, h2, h3⟩ := h.out
  exact ⟨es, h1, owns_ex h2 k, fun i e he => by obtain ⟨dv, q1, q2, q3⟩ := h3 i e he; exact ⟨dv, q1, q2.ex k, fun g hg => ⟨(q3 g hg).1, Nat.lt_of_lt_of_le (q3 g hg).2.1 (ex_size k), (q3 g hg).2.2.1, (q3 g hg).2.2.2.same (by obtain ⟨X, rfl⟩ := k; exact wx_heap w X g (q3 g hg).2.1)⟩⟩⟩
theorem ownE_nil (w : World) (Z : Nat) : OwnE w Z (.slice none 0 0) [] := ⟨[], rfl, owns_nil _ _ _ _, fun i e he => by simp at he⟩
theorem OwnE.form {w : World} {Z : Nat} {v : Value} {l : List En} (h : OwnE w Z v l) : ∃ a c, v = .slice a l.length c ∧ l.length ≤ c ∧ c ≤ maxLen ∧ (a = none → c = 0) := by
  obtain ⟨es, h1, h2, _⟩ := h.out
  rw [← h1]; exact own_form h2
theorem OwnE.lt {w : World} {Z : Nat} {v : Value} {l : List En} (h : OwnE w Z v l) : ∀ g, v.ownBlock = some g → Z ≤ g ∧ g < w.heap.size := by
  obtain ⟨es, h1, h2, _⟩ := h.out
  exact World.ownsRow.lt h2
theorem KE_get : ∀ (l : List EnV) (i : Nat) (e : EnV) (j : Nat), l[i]? = some e → j < 3 → (l.flatMap KE)[i * 3 + j]? = (KE e)[j]? := flat_get KE_len
theorem OwnE.slg {w : World} {Z : Nat} {v : Value} {l : List En} (h : OwnE w Z v l) : SlG w v l := by
  obtain ⟨es, h1, h2, h3⟩ := h.out
  obtain ⟨a, c, rfl, k1, k2, k3⟩ := own_form h2
  rw [h1] at h2 k1 ⊢
  refine ⟨a, c, rfl, k1, k2, k3, ?_⟩
  rcases Nat.eq_zero_or_pos l.length with h0 | hpos
  · rw [List.eq_nil_of_length_eq_zero h0]; exact ⟨Or.inl rfl⟩
  · obtain ⟨g, cap, cur, hv, _⟩ := own_block h2 hpos (by omega)
    obtain ⟨rfl, rfl⟩ : a = some ⟨g, 0, none⟩ ∧ c = cap := by simpa using hv
    have hx : ∀ i : Nat, ∃ dv : Value, ∀ e : En, l[i]? = some e → es[i]? = some (e.1, e.2.1, dv) ∧ SlT w dv e.2.2 := by
      intro i
      by_cases hi : i < l.length
      · obtain ⟨dv, q1, q2, _⟩ := h3 i _ (List.getElem?_eq_getElem hi)
        refine ⟨dv, fun e he => ?_⟩
        rw [List.getElem?_eq_getElem hi] at he
        obtain rfl := Option.some.inj he
        exact ⟨q1, q2⟩
      · exact ⟨undef, fun e he => by rw [List.getElem?_eq_none (by omega)] at he; cases he⟩
    obtain ⟨V, hV⟩ := Classical.skolem.1 hx
    refine ⟨Or.inr ⟨g, 0, V, rfl, (h2.lt g rfl).2, fun i e he => ?_⟩⟩
    obtain ⟨q1, q2⟩ := hV i e he
    have h4 := (own_at KE_len h2 q1).1
    have h5 := (cellsN_some.1 h4).2
    refine ⟨?_, ?_, ?_, q2⟩
    · have := h5 0 (by omega); rw [Nat.add_zero] at this; rw [Nat.zero_add, this]; rfl
    · have := h5 1 (by omega); rw [Nat.zero_add, this]; rfl
    · have := h5 2 (by omega); rw [Nat.zero_add, this]; rfl
theorem one_cells (e : EnV) (h : e.2.2.oneCell' = true) : ∀ u ∈ [e].flatMap KE, u.oneCell' = true := by
  intro u hu
  simp only [List.flatMap_cons, List.flatMap_nil, List.append_nil, KE, List.mem_cons, List.not_mem_nil, or_false] at hu
  rcases hu with rfl | rfl | rfl
  · rfl
  · rfl
  · exact h
/-- append of one entry. -/
theorem wpAppE {ops : Array Oper} {rest : List Oper} {o : Oper} {a : Act} {w : World} {Q : Exit → Act → World → Prop} (s x : Operand) (hgd : o.guard = none)
    (ho : o.op = .call { callee := .builtin .append, args := #[s, x], argTypes := #[36, 36] })
    {Z : Nat} {v dv : Value} {l : List En} {e : En} {g : Nat} (hown : OwnE w Z v l) (hs : a.eval s = v) (hx : a.eval x = .slice (some ⟨g, 0, none⟩) 1 1)
    (c0 : w.cell? ⟨g, 0, none⟩ = some (L e.1)) (c1 : w.cell? ⟨g, 1, none⟩ = some (I e.2.1)) (c2 : w.cell? ⟨g, 2, none⟩ = some dv) (hd : SlT w dv e.2.2) (hdb : ∀ b, dv.ownBlock = some b → Z ≤ b ∧ b < w.heap.size ∧ v.ownBlock ≠ some b ∧ NoFz w b) (hlen : l.length ≤ 1000) (hZ : Z ≤ w.heap.size)
    (h : ∀ v' w', OwnE w' Z v' (l ++ [e]) → App w w' v v' → wpList Tryd.prog ops Q rest (a.put o.dst v') w') : wpList Tryd.prog ops Q (o :: rest) a w := by
  obtain ⟨es, h1, h2, h3⟩ := hown.out
  obtain ⟨i, hi, h1', h2', h3'⟩ := info_parts appEn.hi
  have hdv : dv.oneCell' = true := by obtain ⟨b, c, rfl, _⟩ := hd.out; rfl
  refine wpList_append_own_at w hgd s x _ ho Z _ i _ _ _ appEn.ht hi h1' h2' h3' appEn.hzs appEn.hsz v _ _ hs h2 ⟨g, 0, none⟩ 1 1 ([(e.1, e.2.1, dv)].flatMap KE) hx (by simp [KE]) (fun j u hj => ?_) (one_cells _ hdv) (by unfold maxLen; omega) (by omega) hZ fun v' w' k1 k2 _ k3 => ?_
  · have hj3 : j < 3 := by have := (List.getElem?_eq_some_iff.1 hj).1; simpa [KE] using this
    have hadd : (⟨g, 0, none⟩ : Addr).add j = ⟨g, j, none⟩ := by unfold Addr.add; split <;> simp_all
    rw [hadd]
    have : j = 0 ∨ j = 1 ∨ j = 2 := by omega
    rcases this with rfl | rfl | rfl
    · rw [c0]; simpa [KE] using hj
    · rw [c1]; simpa [KE] using hj
    · rw [c2]; simpa [KE] using hj
  · have hA : App w w' v v' := ⟨k2.os, k2.tape, k2.output, k2.size, fun k hk hne => k2.block k hk (fun e => hne e.symm), by
      rcases k3 with k3 | k3
      · exact Or.inl k3
      · exact Or.inr ⟨_, k3, Nat.le_refl _⟩⟩
    rw [← List.flatMap_append] at k1
    refine h v' w' ⟨es ++ [(e.1, e.2.1, dv)], by simp [h1], by rw [List.length_append, List.length_singleton]; exact k1, fun j ee he => ?_⟩ hA
    rcases Nat.lt_or_ge j l.length with hj | hj
    · rw [List.getElem?_append_left hj] at he
      obtain ⟨dv2, q1, q2, q3⟩ := h3 j ee he
      refine ⟨dv2, by rw [List.getElem?_append_left (by omega)]; exact q1, q2.app hA (fun b hb => (q3 b hb).2.2.1), fun b hb => ⟨(q3 b hb).1, Nat.lt_of_lt_of_le (q3 b hb).2.1 hA.size, fun hv => ?_, (q3 b hb).2.2.2.same (hA.block b (q3 b hb).2.1 (q3 b hb).2.2.1)⟩⟩
      rcases hA.own with h9 | ⟨b', h9, h10⟩
      · exact (q3 b hb).2.2.1 (h9 ▸ hv)
      · rw [h9] at hv
        obtain rfl := Option.some.inj hv
        have := (q3 _ hb).2.1
        omega
    · rw [List.getElem?_append_right hj] at he
      have hj0 : j - l.length = 0 := by
        rcases Nat.eq_zero_or_pos (j - l.length) with h9 | h9
        · exact h9
        · rw [List.getElem?_eq_none (by simp; omega)] at he; cases he
      rw [hj0] at he
      obtain rfl : e = ee := by simpa using he
      refine ⟨dv, by rw [List.getElem?_append_right (by omega), h1, hj0]; rfl, hd.app hA fun b hb => (hdb b hb).2.2.1, fun b hb => ⟨(hdb b hb).1, Nat.lt_of_lt_of_le (hdb b hb).2.1 hA.size, fun hv => ?_, (hdb b hb).2.2.2.same (hA.block b (hdb b hb).2.1 (hdb b hb).2.2.1)⟩⟩
      rcases hA.own with h9 | ⟨b', h9, h10⟩
      · exact (hdb b hb).2.2.1 (h9 ▸ hv)
      · rw [h9] at hv
        obtain rfl := Option.some.inj hv
        have := (hdb _ hb).2.1
        omega
/-! ### What lies above a height is kept -/
structure Keep (Z : Nat) (w w' : World) : Prop where
  size : w.heap.size ≤ w'.heap.size
  same : ∀ b, Z ≤ b → b < w.heap.size → w'.heap[b]? = w.heap[b]?
theorem Keep.refl (Z : Nat) (w : World) : Keep Z w w := ⟨Nat.le_refl _, fun _ _ _ => rfl⟩
theorem Keep.trans {Z : Nat} {a b c : World} (h : Keep Z a b) (k : Keep Z b c) : Keep Z a c := ⟨Nat.le_trans h.size k.size, fun i h1 h2 => (k.same i h1 (Nat.lt_of_lt_of_le h2 h.size)).trans (h.same i h1 h2)⟩
theorem Keep.ofEx {Z : Nat} {w w' : World} (k : Ex w w') : Keep Z w w' := by
  obtain ⟨X, rfl⟩ := k
  exact ⟨by rw [wx_size]; omega, fun b _ hb => wx_heap w X b hb⟩
theorem Keep.set {Z q o : Nat} {w w' : World} (h : Keep Z w w') (hq : q < Z) (v : Value) : Keep Z w (w'.setCell ⟨q, o, none⟩ v) := by
  refine ⟨by have : (w'.setCell ⟨q, o, none⟩ v).heap.size = w'.heap.size := by simp [World.setCell]
             rw [this]; exact h.size, fun b h1 h2 => ?_⟩
  rw [setCell_heap v (by omega)]
  exact h.same b h1 h2
theorem Keep.sets {Z q o : Nat} {w w' : World} (h : Keep Z w w') (hq : q < Z) (vs : List Value) : Keep Z w (w'.setCells q o vs) := by
  refine ⟨by rw [setCells_size]; exact h.size, fun b h1 h2 => ?_⟩
  rw [setCells_heap _ _ _ _ _ (by omega)]
  exact h.same b h1 h2
theorem own_keep {w w' : World} {Z : Nat} {t : TypeId} {s : Nat} {v : Value} {n : Nat} {xs : List Value} (h : w.ownsRow Z t s v n xs) (k : Keep Z w w') : w'.ownsRow Z t s v n xs :=
  own_kept h fun g hg => k.same g (h.lt g hg).1 (h.lt g hg).2
theorem SlT.keep {w w' : World} {Z : Nat} {v : Value} {l : List UInt8} (h : SlT w v l) (k : Keep Z w w') (hb : ∀ g, v.ownBlock = some g → Z ≤ g) : SlT w' v l := by
  obtain ⟨a, c, rfl, h1, h2, h3, h4⟩ := h.out
  refine ⟨a, c, rfl, h1, h2, h3, ?_⟩
  rcases h4.out with h0 | ⟨g, off, rfl, hg, hc⟩
  · exact ⟨Or.inl h0⟩
  · refine SlB.mk' (Nat.lt_of_lt_of_le hg k.size) fun j hj => ?_
    rw [← hc j hj]
    simp only [World.cell?, k.same g (hb g rfl) hg]
theorem OwnE.keep {w w' : World} {Z : Nat} {v : Value} {l : List En} (h : OwnE w Z v l) (k : Keep Z w w') : OwnE w' Z v l := by
  obtain ⟨es, h1, h2, h3⟩ := h.out
  refine ⟨es, h1, own_keep h2 k, fun i e he => ?_⟩
  obtain ⟨dv, q1, q2, q3⟩ := h3 i e he
  exact ⟨dv, q1, q2.keep k (fun g hg => (q3 g hg).1), fun g hg => ⟨(q3 g hg).1, Nat.lt_of_lt_of_le (q3 g hg).2.1 k.size, (q3 g hg).2.2.1, (q3 g hg).2.2.2.same (k.same g (q3 g hg).1 (q3 g hg).2.1)⟩⟩
end Go.Proofs.YtpcfkjeikhehaaaDoor

/- Are two messages one: Same of the package frame. -/
set_option linter.unusedSimpArgs false
set_option linter.unusedVariables false
set_option maxRecDepth 20000
namespace Go.Proofs.YtpcfkjeikhehaaaDoor
open Go.RowKit
theorem ln_beq (x y : UInt64) : (ln x == ln y) = decide (x = y) := by
  rw [Bool.eq_iff_iff, beq_iff_eq, decide_eq_true_eq]
  exact ⟨fun h => ln_inj h, fun h => by rw [h]⟩
theorem ln_eqn (x y : UInt64) : (ln x = ln y) = (x = y) := propext ⟨fun h => ln_inj h, fun h => by rw [h]⟩
def sameEn (x y : En) : Bool := decide (x.1 = y.1) && decide (x.2.1 = y.2.1) && decide (x.2.2 = y.2.2)
theorem sameEn_iff (x y : En) : sameEn x y = decide (x = y) := by
  obtain ⟨a, b, c⟩ := x
  obtain ⟨a', b', c'⟩ := y
  unfold sameEn
  rw [Bool.eq_iff_iff]
  simp [Prod.ext_iff, and_assoc]
set_option maxHeartbeats 1000000 in
theorem same1_any (x y : En) (dv du : Value) (w : World) (hx : SlT w dv x.2.2) (hy : SlT w du y.2.2) :
    Calls Tryd.prog 46 #[.agg #[L x.1, I x.2.1, dv], .agg #[L y.1, I y.2.1, du]] w (Post w (.bool (decide (x = y)))) := by
  rw [← sameEn_iff]
  unfold sameEn
  obtain ⟨a, b, c⟩ := x
  obtain ⟨a', b', c'⟩ := y
  simp only at hx hy ⊢
  have HE := Lib.hid (fun w' (k : Ex w w') => octEqual_any c c' dv du w' (hx.ex k) (hy.ex k))
  generalize decide (c = c') = bc at *
  go_enter Tryd.func46, Tryd.ntmps46
  go_wp2_with (go_at_call 43; (with_reducible refine (HE.out _ (by (try show Ex _ _); repeat (first | (with_reducible exact ex_refl _) | (with_reducible assumption) | (with_reducible refine ex_drewL ?_) | (with_reducible refine ex_appR ?_ _) | (with_reducible refine ex_wx ?_ _) | (with_reducible refine ex_drew ?_) | (with_reducible refine ex_alloc ?_ _)))).mono ?_); rintro e w2 ⟨rfl, X, rfl⟩)
  all_goals (go_ret; refine post_mk (congrArg (fun b => Ending.returned (.bool b)) ?_) (by (try show Ex _ _); repeat (first | (with_reducible exact ex_refl _) | (with_reducible assumption) | (with_reducible refine ex_drewL ?_) | (with_reducible refine ex_appR ?_ _) | (with_reducible refine ex_wx ?_ _) | (with_reducible refine ex_drew ?_) | (with_reducible refine ex_alloc ?_ _))); simp_all [ln_beq, ln_eqn])
theorem enAt_ext {l m : List En} (hl : l.length = m.length) (h : ∀ i, i < l.length → enAt l i = enAt m i) : l = m := by
  apply List.ext_getElem?
  intro i
  by_cases hi : i < l.length
  · rw [enAt_get hi, enAt_get (by omega), h i hi]
  · rw [List.getElem?_eq_none (by omega), List.getElem?_eq_none (by omega)]
set_option maxHeartbeats 2000000 in
theorem equalE_any (l m : List En) (v u : Value) (w : World) (hs : SlG w v l) (ht : SlG w u m) :
    Calls Tryd.prog 45 #[v, u, .func (.func 46) #[] #[]] w (Post w (.bool (decide (l = m)))) := by
  obtain ⟨a, c, rfl, hc, hcm, _, hs⟩ := hs.out
  obtain ⟨b, d, rfl, hd, hdm, _, ht⟩ := ht.out
  by_cases hlm : l.length = m.length
  · have HS : Hid (∀ W, Ex w W → ∀ i, i < m.length → ∃ g off da dc, a = some ⟨g, off, none⟩ ∧ g < W.heap.size ∧ W.cell? ⟨g, off + i * 3, none⟩ = some (L (enAt l i).1) ∧ W.cell? ⟨g, off + i * 3 + 1, none⟩ = some (I (enAt l i).2.1) ∧
      W.cell? ⟨g, off + i * 3 + 2, none⟩ = some (.slice da (enAt l i).2.2.length dc) ∧ SlT W (.slice da (enAt l i).2.2.length dc) (enAt l i).2.2) := Lib.hid fun W k i hi => (hs.ex k).row (by omega)
    have HT : Hid (∀ W, Ex w W → ∀ i, i < m.length → ∃ g off da dc, b = some ⟨g, off, none⟩ ∧ g < W.heap.size ∧ W.cell? ⟨g, off + i * 3, none⟩ = some (L (enAt m i).1) ∧ W.cell? ⟨g, off + i * 3 + 1, none⟩ = some (I (enAt m i).2.1) ∧
      W.cell? ⟨g, off + i * 3 + 2, none⟩ = some (.slice da (enAt m i).2.2.length dc) ∧ SlT W (.slice da (enAt m i).2.2.length dc) (enAt m i).2.2) := Lib.hid fun W k i hi => (ht.ex k).row hi
    have H1 : Hid ((∀ i, i < m.length → enAt l i = enAt m i) → decide (l = m) = true) := Lib.hid fun h => decide_eq_true (enAt_ext hlm (by rw [hlm]; exact h))
    have H0 : Hid (∀ i, i < m.length → enAt l i ≠ enAt m i → decide (l = m) = false) := Lib.hid fun i hi h => decide_eq_false fun e => h (by rw [e])
    rw [hlm] at hc ⊢
    generalize decide (l = m) = ov at H0 H1 ⊢
    generalize m.length = n at *
    generalize enAt l = p at HS H0 H1
    generalize enAt m = q at HT H0 H1
    clear hlm hs ht
    unfold maxLen at hcm hdm
    go_enter Tryd.func45, Tryd.ntmps45
    go_wp2
    go_loopw [17] (fun i wr => ∃ k : Nat, k ≤ n ∧ i = I k ∧ Hid (∀ i, i < k → p i = q i) ∧ Ex w wr) (fun i _ => n - (intOf i).toNat)
    case atStart => exact ⟨0, by omega, rfl, Lib.hid (fun i hi => absurd hi (by omega)), (by (try show Ex _ _); repeat (first | (with_reducible exact ex_refl _) | (with_reducible assumption) | (with_reducible refine ex_drewL ?_) | (with_reducible refine ex_appR ?_ _) | (with_reducible refine ex_wx ?_ _) | (with_reducible refine ex_drew ?_) | (with_reducible refine ex_alloc ?_ _)))⟩
    case round =>
      obtain ⟨k, hk, rfl, HK, kr⟩ := hrel
      by_cases hlt : k < n
      · obtain ⟨g, off, da, dc, rfl, r1, r2, r3, r4, r5⟩ := HS.out wr kr k hlt
        obtain ⟨g', off', ea, ec, rfl, s1, s2, s3, s4, s5⟩ := HT.out wr kr k hlt
        have H0k := Lib.hid (H0.out k hlt)
        have HKn : Hid (p k = q k → ∀ i, i < k + 1 → p i = q i) := Lib.hid fun h i hi => by
          rcases Nat.lt_or_ge i k with h2 | h2
          · exact HK.out i h2
          · obtain rfl : i = k := by omega
            exact h
        have HC := Lib.hid (fun w' (K : Ex wr w') => same1_any (p k) (q k) _ _ w' (r5.ex K) (s5.ex K))
        clear H0 H1 HS HT HK r5 s5
        generalize p k = pk at *
        generalize q k = qk at *
        by_cases he : pk = qk
        · have HK3 := Lib.hid (HKn.out he)
          rw [decide_eq_true he] at HC
          clear HKn H0k he
          go_wp2_with (go_at_call 46; (with_reducible refine (HC.out _ (by (try show Ex _ _); repeat (first | (with_reducible exact ex_refl _) | (with_reducible assumption) | (with_reducible refine ex_drewL ?_) | (with_reducible refine ex_appR ?_ _) | (with_reducible refine ex_wx ?_ _) | (with_reducible refine ex_drew ?_) | (with_reducible refine ex_alloc ?_ _)))).mono ?_); rintro e w2 ⟨rfl, X, rfl⟩)
          refine ⟨⟨k + 1, by omega, by go_num, HK3, ex_trans kr (by (try show Ex _ _); repeat (first | (with_reducible exact ex_refl _) | (with_reducible assumption) | (with_reducible refine ex_drewL ?_) | (with_reducible refine ex_appR ?_ _) | (with_reducible refine ex_wx ?_ _) | (with_reducible refine ex_drew ?_) | (with_reducible refine ex_alloc ?_ _)))⟩, by simp [intOf]; omega⟩
        · obtain rfl := H0k.out he
          rw [decide_eq_false he] at HC
          clear HKn H0k he
          go_wp2_with (go_at_call 46; (with_reducible refine (HC.out _ (by (try show Ex _ _); repeat (first | (with_reducible exact ex_refl _) | (with_reducible assumption) | (with_reducible refine ex_drewL ?_) | (with_reducible refine ex_appR ?_ _) | (with_reducible refine ex_wx ?_ _) | (with_reducible refine ex_drew ?_) | (with_reducible refine ex_alloc ?_ _)))).mono ?_); rintro e w2 ⟨rfl, X, rfl⟩)
          go_ret
          exact post_mk rfl (ex_trans kr (by (try show Ex _ _); repeat (first | (with_reducible exact ex_refl _) | (with_reducible assumption) | (with_reducible refine ex_drewL ?_) | (with_reducible refine ex_appR ?_ _) | (with_reducible refine ex_wx ?_ _) | (with_reducible refine ex_drew ?_) | (with_reducible refine ex_alloc ?_ _))))
      · obtain rfl : k = n := by omega
        obtain rfl := H1.out HK.out
        clear hlt hk H0 HS HT
        go_wp2
        go_ret
        exact post_mk rfl (by (try show Ex _ _); repeat (first | (with_reducible exact ex_refl _) | (with_reducible assumption) | (with_reducible refine ex_drewL ?_) | (with_reducible refine ex_appR ?_ _) | (with_reducible refine ex_wx ?_ _) | (with_reducible refine ex_drew ?_) | (with_reducible refine ex_alloc ?_ _)))
  · have e1 : decide (l = m) = false := decide_eq_false fun e => hlm (by rw [e])
    rw [e1]
    have e2 : ((l.length : Int) == m.length) = false := beq_eq_false_iff_ne.2 (by omega)
    generalize l.length = n1 at *
    generalize m.length = n2 at *
    clear hs ht e1
    go_enter Tryd.func45, Tryd.ntmps45
    go_wp2
    go_ret
    exact post_mk rfl (by (try show Ex _ _); repeat (first | (with_reducible exact ex_refl _) | (with_reducible assumption) | (with_reducible refine ex_drewL ?_) | (with_reducible refine ex_appR ?_ _) | (with_reducible refine ex_wx ?_ _) | (with_reducible refine ex_drew ?_) | (with_reducible refine ex_alloc ?_ _)))
theorem eqIn_u64 (d : Nat) (a b : UInt64) (w : World) : (Op.equalIn (d + 1) 25 (L a) (L b)).run Tryd.prog w = .ok (ln a == ln b) w := by
  unfold Op.equalIn
  simp [run_underlying Tryd.underlying25]
theorem part_u64 (zs : Array Value) (i : Nat) (s : UInt64) (h : zs[i]? = some (L s)) (w : World) : (part 25 zs i).run Tryd.prog w = .ok (L s) w := by
  obtain ⟨j, hj, hs⟩ : ∃ j, Tryd.prog.info? 25 = some j ∧ j.size = 1 := by
    have hi : (Tryd.prog.info? 25).map (·.size) = some 1 := by kernel_rfl
    obtain ⟨j, h1, h2⟩ := Option.map_eq_some_iff.1 hi
    exact ⟨j, h1, h2⟩
  have hrow : (isAgg 25).run Tryd.prog w = .ok false w := by simp [isAgg, run_underlying Tryd.underlying25]
  have hce : Tryd.prog.cellsOf 25 = 1 := by unfold Program.cellsOf; rw [hj]; simp [hs]
  simp [part, run_sizeOf w hj, hce, hrow, h]
theorem eqIn_at (a b c d : UInt64) (w : World) : (Op.equal 35 (.agg #[L a, L b]) (.agg #[L c, L d])).run Tryd.prog w = .ok ((ln a == ln c) && (ln b == ln d)) w := by
  unfold Op.equal Op.maxDepth
  unfold Op.equalIn
  have hst : Tryd.prog.stoodInHeld 35 = false := by kernel_rfl
  have p0 : ∀ (x y : UInt64) (w : World), (part 25 #[L x, L y] 0).run Tryd.prog w = .ok (L x) w := fun x y w => part_u64 _ _ _ rfl w
  have p1 : ∀ (x y : UInt64) (w : World), (part 25 #[L x, L y] 1).run Tryd.prog w = .ok (L y) w := fun x y w => part_u64 _ _ _ rfl w
  have e0 : ∀ (x y : UInt64) (w : World), (Op.equalIn 9999 25 (L x) (L y)).run Tryd.prog w = .ok (ln x == ln y) w := fun x y w => eqIn_u64 9998 x y w
  simp [run_underlying Tryd.underlying35, hst, p0, p1, e0]
  by_cases h1 : ln a = ln c <;> by_cases h2 : ln b = ln d <;> simp [h1, h2]
@[go_sem high] theorem eql_at (a b c d : UInt64) (w : World) : (binOp .eql 35 (.agg #[.int .u64 (ln a), .int .u64 (ln b)]) (.agg #[.int .u64 (ln c), .int .u64 (ln d)])).run Tryd.prog w = .ok (.bool (decide (a = c) && decide (b = d))) w := by
  rw [run_eql_struct]
  have := eqIn_at a b c d w
  unfold Op.equal Op.maxDepth at this
  rw [← ln_beq, ← ln_beq]
  rw [this]
  rfl
@[go_sem high] theorem neq_at (a b c d : UInt64) (w : World) : (binOp .neq 35 (.agg #[.int .u64 (ln a), .int .u64 (ln b)]) (.agg #[.int .u64 (ln c), .int .u64 (ln d)])).run Tryd.prog w = .ok (.bool (!(decide (a = c) && decide (b = d)))) w := by
  rw [run_neq_struct]
  have := eqIn_at a b c d w
  unfold Op.equal Op.maxDepth at this
  rw [← ln_beq, ← ln_beq]
  rw [this]
  rfl
def bAnd5 (a b c d e : Bool) : Bool := a && b && c && d && e
set_option maxHeartbeats 4000000 in
theorem same_any (x y : Ms) (v u : Value) (w : World) (hx : MsV w v x) (hy : MsV w u y) :
    Calls Tryd.prog 22 #[v, u] w (Post w (.bool (sameM x y))) := by
  obtain ⟨ev, mv, dv, rfl, x1, x2, x3⟩ := hx.out
  obtain ⟨eu, mu, du, rfl, y1, y2, y3⟩ := hy.out
  have HE := Lib.hid (fun w' (k : Ex w w') => equalE_any x.es y.es ev eu w' (x1.ex k) (y1.ex k))
  have HI := Lib.hid (fun w' (k : Ex w w') => equalI_any x.mb y.mb mv mu w' (x2.ex k) (y2.ex k))
  have HD := Lib.hid (fun w' (k : Ex w w') => octEqual_any x.da y.da dv du w' (x3.ex k) (y3.ex k))
  obtain ⟨a1, c1, rfl, _⟩ := id x1.out
  obtain ⟨a2, c2, rfl, _⟩ := id x2.out
  obtain ⟨a3, c3, rfl, _⟩ := id x3.out
  obtain ⟨b1, d1, rfl, _⟩ := id y1.out
  obtain ⟨b2, d2, rfl, _⟩ := id y2.out
  obtain ⟨b3, d3, rfl, _⟩ := id y3.out
  unfold sameM
  clear x1 x2 x3 y1 y2 y3 hx hy
  generalize decide (x.es = y.es) = be at *
  generalize decide (x.mb = y.mb) = bi at *
  generalize decide (x.da = y.da) = bd at *
  generalize x.es.length = n1 at *
  generalize x.mb.length = n2 at *
  generalize x.da.length = n3 at *
  generalize y.es.length = m1 at *
  generalize y.mb.length = m2 at *
  generalize y.da.length = m3 at *
  obtain ⟨kd, fr, to, tm, pi, pt, es, cm, ok, mb, da⟩ := x
  obtain ⟨kd', fr', to', tm', pi', pt', es', cm', ok', mb', da'⟩ := y
  simp only
  go_enter Tryd.func22, Tryd.ntmps22
  go_wp2_with (first | (go_at_call 43; (with_reducible refine (HD.out _ (by (try show Ex _ _); repeat (first | (with_reducible exact ex_refl _) | (with_reducible assumption) | (with_reducible refine ex_drewL ?_) | (with_reducible refine ex_appR ?_ _) | (with_reducible refine ex_wx ?_ _) | (with_reducible refine ex_drew ?_) | (with_reducible refine ex_alloc ?_ _)))).mono ?_); rintro e w2 ⟨rfl, X, rfl⟩; clear HD) | (go_at_call 44; (with_reducible refine (HI.out _ (by (try show Ex _ _); repeat (first | (with_reducible exact ex_refl _) | (with_reducible assumption) | (with_reducible refine ex_drewL ?_) | (with_reducible refine ex_appR ?_ _) | (with_reducible refine ex_wx ?_ _) | (with_reducible refine ex_drew ?_) | (with_reducible refine ex_alloc ?_ _)))).mono ?_); rintro e w2 ⟨rfl, X, rfl⟩; clear HI) | (go_at_call 45; (with_reducible refine (HE.out _ (by (try show Ex _ _); repeat (first | (with_reducible exact ex_refl _) | (with_reducible assumption) | (with_reducible refine ex_drewL ?_) | (with_reducible refine ex_appR ?_ _) | (with_reducible refine ex_wx ?_ _) | (with_reducible refine ex_drew ?_) | (with_reducible refine ex_alloc ?_ _)))).mono ?_); rintro e w2 ⟨rfl, X, rfl⟩; clear HE))
  all_goals (go_ret; refine post_mk (congrArg (fun b => Ending.returned (.bool b)) ?_) (by (try show Ex _ _); repeat (first | (with_reducible exact ex_refl _) | (with_reducible assumption) | (with_reducible refine ex_drewL ?_) | (with_reducible refine ex_appR ?_ _) | (with_reducible refine ex_wx ?_ _) | (with_reducible refine ex_drew ?_) | (with_reducible refine ex_alloc ?_ _))); simp_all [ln_beq, ln_eqn])
end Go.Proofs.YtpcfkjeikhehaaaDoor
