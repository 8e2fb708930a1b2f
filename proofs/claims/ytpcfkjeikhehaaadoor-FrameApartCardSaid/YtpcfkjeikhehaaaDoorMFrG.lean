import Derived.Test.YtpcfkjeikhehaaaDoorMFrCl

/- Rows of entries of the call's own. -/
set_option linter.unusedSimpArgs false
set_option linter.unusedVariables false
set_option maxRecDepth 20000
namespace Go.Proofs.YtpcfkjeikhehaaaDoor
open Go.RowKit
abbrev EnV := UInt64 × Int × Value
def KE (e : EnV) : List Value := [L e.1, I e.2.1, e.2.2]
theorem KE_len (e : EnV) : (KE e).length = 3 := rfl
/-- A row of entries of the call's own, whose data lie in other blocks. -/
structure OwnE (w : World) (Z : Nat) (v : Value) (l : List En) : Prop where
  out : ∃ es : List EnV, es.length = l.length ∧ w.ownsRow Z 60 3 v es.length (es.flatMap KE) ∧
    ∀ (i : Nat) (e : En), l[i]? = some e → ∃ dv, es[i]? = some (e.1, e.2.1, dv) ∧ SlT w dv e.2.2 ∧ ∀ g, dv.ownBlock = some g → Z ≤ g ∧ g < w.heap.size ∧ v.ownBlock ≠ some g
theorem appEn : AppT Tryd.prog 36 60 3 40 (.agg #[.int .u64 0, .int .i64 0, .slice none 0 0]) := ⟨Tryd.underlying36, by kernel_rfl, by simp [Value.cells], by decide⟩
theorem OwnE.ex {w w' : World} {Z : Nat} {v : Value} {l : List En} (h : OwnE w Z v l) (k : Ex w w') : OwnE w' Z v l := by
  obtain ⟨es, h1, h2, h3⟩ := h.out
  exact ⟨es, h1, owns_ex h2 k, fun i e he => by obtain ⟨dv, q1, q2, q3⟩ := h3 i e he; exact ⟨dv, q1, q2.ex k, fun g hg => ⟨(q3 g hg).1, Nat.lt_of_lt_of_le (q3 g hg).2.1 (ex_size k), (q3 g hg).2.2⟩⟩⟩
theorem ownE_nil (w : World) (Z : Nat) : OwnE w Z (.slice none 0 0) [] := ⟨[], rfl, owns_nil _ _ _ _, fun i e he => by simp at he⟩
theorem OwnE.form {w : World} {Z : Nat} {v : Value} {l : List En} (h : OwnE w Z v l) : ∃ a c, v = .slice a l.length c ∧ l.length ≤ c ∧ c ≤ maxLen ∧ (a = none → c = 0) := by
  obtain ⟨es, h1, h2, _⟩ := h.out
  rw [← h1]; exact own_form h2
theorem OwnE.lt {w : World} {Z : Nat} {v : Value} {l : List En} (h : OwnE w Z v l) : ∀ g, v.ownBlock = some g → Z ≤ g ∧ g < w.heap.size := by
  obtain ⟨es, h1, h2, _⟩ := h.out
  exact World.ownsRow.lt h2
theorem KE_get : ∀ (l : List EnV) (i : Nat) (e : EnV) (j : Nat), l[i]? = some e → j < 3 → (l.flatMap KE)[i * 3 + j]? = (KE e)[j]? := flat_get KE_len
theorem OwnE.slg {w : World} {Z : Nat} {v : Value} {l : List En} (h : OwnE w Z v l) : SlG w v l := by
  obtain ⟨es, h1, h2, h3⟩ := h.out
  obtain ⟨a, c, rfl, k1, k2, k3⟩ := own_form h2
  rw [h1] at h2 k1 ⊢
  refine ⟨a, c, rfl, k1, k2, k3, ?_⟩
  rcases Nat.eq_zero_or_pos l.length with h0 | hpos
  · rw [List.eq_nil_of_length_eq_zero h0]; exact ⟨Or.inl rfl⟩
  · obtain ⟨g, cap, cur, hv, _⟩ := own_block h2 hpos (by omega)
    obtain ⟨rfl, rfl⟩ : a = some ⟨g, 0, none⟩ ∧ c = cap := by simpa using hv
    have hx : ∀ i : Nat, ∃ dv : Value, ∀ e : En, l[i]? = some e → es[i]? = some (e.1, e.2.1, dv) ∧ SlT w dv e.2.2 := by
      intro i
      by_cases hi : i < l.length
      · obtain ⟨dv, q1, q2, _⟩ := h3 i _ (List.getElem?_eq_getElem hi)
        refine ⟨dv, fun e he => ?_⟩
        rw [List.getElem?_eq_getElem hi] at he
        obtain rfl := Option.some.inj he
        exact ⟨q1, q2⟩
      · exact ⟨undef, fun e he => by rw [List.getElem?_eq_none (by omega)] at he; cases he⟩
    obtain ⟨V, hV⟩ := Classical.skolem.1 hx
    refine ⟨Or.inr ⟨g, 0, V, rfl, (h2.lt g rfl).2, fun i e he => ?_⟩⟩
    obtain ⟨q1, q2⟩ := hV i e he
    have h4 := (own_at KE_len h2 q1).1
    have h5 := (cellsN_some.1 h4).2
    refine ⟨?_, ?_, ?_, q2⟩
    · have := h5 0 (by omega); rw [Nat.add_zero] at this; rw [Nat.zero_add, this]; rfl
    · have := h5 1 (by omega); rw [Nat.zero_add, this]; rfl
    · have := h5 2 (by omega); rw [Nat.zero_add, this]; rfl
theorem one_cells (e : EnV) (h : e.2.2.oneCell' = true) : ∀ u ∈ [e].flatMap KE, u.oneCell' = true := by
  intro u hu
  simp only [List.flatMap_cons, List.flatMap_nil, List.append_nil, KE, List.mem_cons, List.not_mem_nil, or_false] at hu
  rcases hu with rfl | rfl | rfl
  · rfl
  · rfl
  · exact h
/-- append of one entry. -/
theorem wpAppE {ops : Array Oper} {rest : List Oper} {o : Oper} {a : Act} {w : World} {Q : Exit → Act → World → Prop} (s x : Operand) (hgd : o.guard = none)
    (ho : o.op = .call { callee := .builtin .append, args := #[s, x], argTypes := #[36, 36] })
    {Z : Nat} {v dv : Value} {l : List En} {e : En} {g : Nat} (hown : OwnE w Z v l) (hs : a.eval s = v) (hx : a.eval x = .slice (some ⟨g, 0, none⟩) 1 1)
    (c0 : w.cell? ⟨g, 0, none⟩ = some (L e.1)) (c1 : w.cell? ⟨g, 1, none⟩ = some (I e.2.1)) (c2 : w.cell? ⟨g, 2, none⟩ = some dv) (hd : SlT w dv e.2.2) (hdb : ∀ b, dv.ownBlock = some b → Z ≤ b ∧ b < w.heap.size ∧ v.ownBlock ≠ some b) (hlen : l.length ≤ 1000) (hZ : Z ≤ w.heap.size)
    (h : ∀ v' w', OwnE w' Z v' (l ++ [e]) → App w w' v v' → wpList Tryd.prog ops Q rest (a.put o.dst v') w') : wpList Tryd.prog ops Q (o :: rest) a w := by
  obtain ⟨es, h1, h2, h3⟩ := hown.out
  obtain ⟨i, hi, h1', h2', h3'⟩ := info_parts appEn.hi
  have hdv : dv.oneCell' = true := by obtain ⟨b, c, rfl, _⟩ := hd.out; rfl
  refine wpList_append_own_at w hgd s x _ ho Z _ i _ _ _ appEn.ht hi h1' h2' h3' appEn.hzs appEn.hsz v _ _ hs h2 ⟨g, 0, none⟩ 1 1 ([(e.1, e.2.1, dv)].flatMap KE) hx (by simp [KE]) (fun j u hj => ?_) (one_cells _ hdv) (by unfold maxLen; omega) (by omega) hZ fun v' w' k1 k2 _ k3 => ?_
  · have hj3 : j < 3 := by have := (List.getElem?_eq_some_iff.1 hj).1; simpa [KE] using this
    have hadd : (⟨g, 0, none⟩ : Addr).add j = ⟨g, j, none⟩ := by unfold Addr.add; split <;> simp_all
    rw [hadd]
    have : j = 0 ∨ j = 1 ∨ j = 2 := by omega
    rcases this with rfl | rfl | rfl
    · rw [c0]; simpa [KE] using hj
    · rw [c1]; simpa [KE] using hj
    · rw [c2]; simpa [KE] using hj
  · have hA : App w w' v v' := ⟨k2.os, k2.tape, k2.output, k2.size, fun k hk hne => k2.block k hk (fun e => hne e.symm), by
      rcases k3 with k3 | k3
      · exact Or.inl k3
      · exact Or.inr ⟨_, k3, Nat.le_refl _⟩⟩
    rw [← List.flatMap_append] at k1
    refine h v' w' ⟨es ++ [(e.1, e.2.1, dv)], by simp [h1], by rw [List.length_append, List.length_singleton]; exact k1, fun j ee he => ?_⟩ hA
    rcases Nat.lt_or_ge j l.length with hj | hj
    · rw [List.getElem?_append_left hj] at he
      obtain ⟨dv2, q1, q2, q3⟩ := h3 j ee he
      refine ⟨dv2, by rw [List.getElem?_append_left (by omega)]; exact q1, q2.app hA (fun b hb => (q3 b hb).2.2), fun b hb => ⟨(q3 b hb).1, Nat.lt_of_lt_of_le (q3 b hb).2.1 hA.size, fun hv => ?_⟩⟩
      rcases hA.own with h9 | ⟨b', h9, h10⟩
      · exact (q3 b hb).2.2 (h9 ▸ hv)
      · rw [h9] at hv
        obtain rfl := Option.some.inj hv
        have := (q3 _ hb).2.1
        omega
    · rw [List.getElem?_append_right hj] at he
      have hj0 : j - l.length = 0 := by
        rcases Nat.eq_zero_or_pos (j - l.length) with h9 | h9
        · exact h9
        · rw [List.getElem?_eq_none (by simp; omega)] at he; cases he
      rw [hj0] at he
      obtain rfl : e = ee := by simpa using he
      refine ⟨dv, by rw [List.getElem?_append_right (by omega), h1, hj0]; rfl, hd.app hA fun b hb => (hdb b hb).2.2, fun b hb => ⟨(hdb b hb).1, Nat.lt_of_lt_of_le (hdb b hb).2.1 hA.size, fun hv => ?_⟩⟩
      rcases hA.own with h9 | ⟨b', h9, h10⟩
      · exact (hdb b hb).2.2 (h9 ▸ hv)
      · rw [h9] at hv
        obtain rfl := Option.some.inj hv
        have := (hdb _ hb).2.1
        omega
/-! ### What lies above a height is kept -/
structure Keep (Z : Nat) (w w' : World) : Prop where
  size : w.heap.size ≤ w'.heap.size
  same : ∀ b, Z ≤ b → b < w.heap.size → w'.heap[b]? = w.heap[b]?
theorem Keep.refl (Z : Nat) (w : World) : Keep Z w w := ⟨Nat.le_refl _, fun _ _ _ => rfl⟩
theorem Keep.trans {Z : Nat} {a b c : World} (h : Keep Z a b) (k : Keep Z b c) : Keep Z a c := ⟨Nat.le_trans h.size k.size, fun i h1 h2 => (k.same i h1 (Nat.lt_of_lt_of_le h2 h.size)).trans (h.same i h1 h2)⟩
theorem Keep.ofEx {Z : Nat} {w w' : World} (k : Ex w w') : Keep Z w w' := by
  obtain ⟨X, rfl⟩ := k
  exact ⟨by rw [wx_size]; omega, fun b _ hb => wx_heap w X b hb⟩
theorem Keep.set {Z q o : Nat} {w w' : World} (h : Keep Z w w') (hq : q < Z) (v : Value) : Keep Z w (w'.setCell ⟨q, o, none⟩ v) := by
  refine ⟨by have : (w'.setCell ⟨q, o, none⟩ v).heap.size = w'.heap.size := by simp [World.setCell]
             rw [this]; exact h.size, fun b h1 h2 => ?_⟩
  rw [setCell_heap v (by omega)]
  exact h.same b h1 h2
theorem Keep.sets {Z q o : Nat} {w w' : World} (h : Keep Z w w') (hq : q < Z) (vs : List Value) : Keep Z w (w'.setCells q o vs) := by
  refine ⟨by rw [setCells_size]; exact h.size, fun b h1 h2 => ?_⟩
  rw [setCells_heap _ _ _ _ _ (by omega)]
  exact h.same b h1 h2
theorem own_keep {w w' : World} {Z : Nat} {t : TypeId} {s : Nat} {v : Value} {n : Nat} {xs : List Value} (h : w.ownsRow Z t s v n xs) (k : Keep Z w w') : w'.ownsRow Z t s v n xs :=
  own_kept h fun g hg => k.same g (h.lt g hg).1 (h.lt g hg).2
theorem SlT.keep {w w' : World} {Z : Nat} {v : Value} {l : List UInt8} (h : SlT w v l) (k : Keep Z w w') (hb : ∀ g, v.ownBlock = some g → Z ≤ g) : SlT w' v l := by
  obtain ⟨a, c, rfl, h1, h2, h3, h4⟩ := h.out
  refine ⟨a, c, rfl, h1, h2, h3, ?_⟩
  rcases h4.out with h0 | ⟨g, off, rfl, hg, hc⟩
  · exact ⟨Or.inl h0⟩
  · refine SlB.mk' (Nat.lt_of_lt_of_le hg k.size) fun j hj => ?_
    rw [← hc j hj]
    simp only [World.cell?, k.same g (hb g rfl) hg]
theorem OwnE.keep {w w' : World} {Z : Nat} {v : Value} {l : List En} (h : OwnE w Z v l) (k : Keep Z w w') : OwnE w' Z v l := by
  obtain ⟨es, h1, h2, h3⟩ := h.out
  refine ⟨es, h1, own_keep h2 k, fun i e he => ?_⟩
  obtain ⟨dv, q1, q2, q3⟩ := h3 i e he
  exact ⟨dv, q1, q2.keep k (fun g hg => (q3 g hg).1), fun g hg => ⟨(q3 g hg).1, Nat.lt_of_lt_of_le (q3 g hg).2.1 k.size, (q3 g hg).2.2⟩⟩
end Go.Proofs.YtpcfkjeikhehaaaDoor
