import Derived.Test.YtpcfkjeikhehaaaDoorMFrFew

/- spoil: numbers of a message's lists are turned, nothing else. -/
set_option linter.unusedSimpArgs false
set_option linter.unusedVariables false
set_option maxRecDepth 20000
namespace Go.Proofs.YtpcfkjeikhehaaaDoor
open Go.RowKit
def likeV (x y : Value) : Prop := y = x ∨ ∃ k i j, x = .int k i ∧ y = .int k j
/-- Numbers above a height may be others; all else is as it was. -/
structure Tg (Z : Nat) (w W : World) : Prop where
  below : Below Z w W
  cell : ∀ b o x, w.cell? ⟨b, o, none⟩ = some x → ∃ y, W.cell? ⟨b, o, none⟩ = some y ∧ likeV x y
  fz : ∀ b, b < w.heap.size → NoFz w b → NoFz W b
theorem Tg.refl (Z : Nat) (w : World) : Tg Z w w := ⟨Below.refl Z w, fun _ _ x h => ⟨x, h, Or.inl rfl⟩, fun _ _ h => h⟩
theorem cell_set (w : World) (b o b' o' : Nat) (v : Value) : (w.setCell ⟨b, o, none⟩ v).cell? ⟨b', o', none⟩ = if b' = b ∧ o' = o ∧ (w.cell? ⟨b', o', none⟩).isSome then some v else w.cell? ⟨b', o', none⟩ := by
  by_cases hb : b' = b
  · subst hb
    simp only [World.cell?, World.setCell, Array.getElem?_modify]
    cases h : w.heap[b']? with
    | none => simp
    | some ob =>
      cases ob with
      | cells c t fr =>
        simp only [Option.map_some, if_true, Option.isSome_none, Array.getElem?_setIfInBounds]
        by_cases ho : o' = o
        · subst ho
          by_cases h2 : o' < c.size
          · simp [h2]
          · simp [h2]
        · have ho2 : ¬ o = o' := fun e => ho e.symm
          simp [ho, ho2]
      | _ => simp
  · rw [if_neg (fun h => hb h.1)]
    simp only [World.cell?, setCell_heap v hb]
theorem froz_set (w : World) (b o b' o' : Nat) (v : Value) : (w.setCell ⟨b, o, none⟩ v).frozen? ⟨b', o', none⟩ = w.frozen? ⟨b', o', none⟩ := by
  by_cases hb : b' = b
  · subst hb
    simp only [World.frozen?, World.setCell, Array.getElem?_modify]
    cases h : w.heap[b']? with
    | none => simp
    | some ob => cases ob <;> simp
  · simp only [World.frozen?, setCell_heap v hb]
theorem Tg.set {Z : Nat} {w W : World} (h : Tg Z w W) {b o : Nat} {k : IntKind} {i : Int} (hc : W.cell? ⟨b, o, none⟩ = some (.int k i)) (hb : Z ≤ b) (j : Int) : Tg Z w (W.setCell ⟨b, o, none⟩ (.int k j)) := by
  refine ⟨h.below.trans ((Below.refl Z W).setCell (p := ⟨b, o, none⟩) hb _), fun b' o' x hx => ?_, fun b' hb' hf o' => ?_⟩
  · obtain ⟨y, hy, hl⟩ := h.cell b' o' x hx
    rw [cell_set]
    split
    · rename_i hh
      obtain ⟨rfl, rfl, _⟩ := hh
      rw [hc] at hy
      obtain rfl := Option.some.inj hy
      refine ⟨_, rfl, ?_⟩
      rcases hl with h1 | ⟨k', i', j', h1, h2⟩
      · subst h1; exact Or.inr ⟨_, _, _, rfl, rfl⟩
      · cases h2; subst h1; exact Or.inr ⟨_, _, _, rfl, rfl⟩
    · exact ⟨y, hy, hl⟩
  · rw [froz_set]; exact h.fz b' hb' hf o'
theorem Tg.int {Z : Nat} {w W : World} (h : Tg Z w W) {b o : Nat} {k : IntKind} {i : Int} (hc : w.cell? ⟨b, o, none⟩ = some (.int k i)) : ∃ j, W.cell? ⟨b, o, none⟩ = some (.int k j) := by
  obtain ⟨y, hy, hl⟩ := h.cell b o _ hc
  rcases hl with rfl | ⟨k', i', j', h1, rfl⟩
  · exact ⟨i, hy⟩
  · cases h1; exact ⟨j', hy⟩
theorem Tg.slice {Z : Nat} {w W : World} (h : Tg Z w W) {b o : Nat} {a : Option Addr} {n c : Nat} (hc : w.cell? ⟨b, o, none⟩ = some (.slice a n c)) : W.cell? ⟨b, o, none⟩ = some (.slice a n c) := by
  obtain ⟨y, hy, hl⟩ := h.cell b o _ hc
  rcases hl with rfl | ⟨k', i', j', h1, rfl⟩
  · exact hy
  · cases h1
theorem ex_cell {w W : World} (k : Ex w W) {b : Nat} (hb : b < w.heap.size) {o : Nat} : W.cell? ⟨b, o, none⟩ = w.cell? ⟨b, o, none⟩ := by
  obtain ⟨X, rfl⟩ := k
  simp only [World.cell?, wx_heap w X b hb]
theorem below_of_ex2 {w w' : World} {Z : Nat} (k : Ex w w') (hz : Z ≤ w.heap.size) : Below Z w w' := by
  have := ex_below k
  exact ⟨this.os, this.tape, this.output, this.size, fun b hb => this.block b (Nat.lt_of_lt_of_le hb hz)⟩
theorem OwnE.at {w : World} {Z : Nat} {v : Value} {l : List En} (h : OwnE w Z v l) {i : Nat} (hi : i < l.length) :
    ∃ (g c : Nat) (t : UInt64) (d : List UInt8) (da : Option Addr) (dc : Nat), v = .slice (some ⟨g, 0, none⟩) l.length c ∧ Z ≤ g ∧ g < w.heap.size ∧ NoFz w g ∧ w.cell? ⟨g, i * 3, none⟩ = some (L t) ∧ w.cell? ⟨g, i * 3 + 2, none⟩ = some (.slice da d.length dc) ∧
      SlT w (.slice da d.length dc) d ∧ ∀ b, Value.ownBlock (.slice da d.length dc) = some b → Z ≤ b ∧ b < w.heap.size ∧ NoFz w b := by
  obtain ⟨es, h1, h2, h3⟩ := h.out
  obtain ⟨dv, q1, q2, q3⟩ := h3 i _ (List.getElem?_eq_getElem hi)
  have hn : 0 < es.length := by omega
  obtain ⟨g, cap, cur, rfl, hz, hb, _⟩ := own_block h2 hn (by omega)
  obtain ⟨k1, _, _, k4⟩ := own_at KE_len h2 q1
  obtain ⟨da, dc, rfl, _⟩ := id q2.out
  have hc := (cellsN_some.1 k1).2
  have c0 := hc 0 (by omega)
  have c2 := hc 2 (by omega)
  rw [Nat.add_zero] at c0
  exact ⟨g, cap, _, _, da, dc, by rw [h1], hz, k4, own_nofz h2 rfl, c0, c2, q2, fun b hb' => ⟨(q3 b hb').1, (q3 b hb').2.1, (q3 b hb').2.2.2⟩⟩
theorem SlT.byte {w : World} {a : Option Addr} {n c : Nat} {l : List UInt8} (h : SlT w (.slice a n c) l) {j : Nat} (hj : j < l.length) : ∃ g off b, a = some ⟨g, off, none⟩ ∧ g < w.heap.size ∧ w.cell? ⟨g, off + j, none⟩ = some (B b) := by
  obtain ⟨a2, c2, hv, h1, h2, h3, h4⟩ := h.out
  obtain ⟨rfl, rfl, rfl⟩ : a = a2 ∧ n = l.length ∧ c = c2 := by simpa using hv
  rcases h4.out with h0 | ⟨g, off, h5, h6, h7⟩
  · omega
  · exact ⟨g, off, _, h5, h6, h7 j hj⟩
set_option maxHeartbeats 4000000 in
theorem spoil_any {Z : Nat} (m : Ms) (v : Value) (w : World) (hm : MsO w Z v m) (hz : Z ≤ w.heap.size) (he : m.es.length ≤ 1000000) (hmb : m.mb.length ≤ 1000000) (hda : m.da.length ≤ 1000000) :
    Calls Tryd.prog 28 #[v] w fun e w' => e = .returned (.tuple #[]) ∧ Below Z w w' := by
  obtain ⟨ev, mv, dv, rfl, o1, o2, o3⟩ := id hm.out
  obtain ⟨ea, ec, rfl, _⟩ := OwnE.form o1
  obtain ⟨ma, mc, rfl, _⟩ := own_form o2
  obtain ⟨da, dc, rfl, _⟩ := own_form o3
  obtain ⟨W1, hW1⟩ : ∃ W1, w.alloc (.cells #[I m.kd, I m.fr, I m.to, L m.tm, L m.pi, L m.pt, .slice ea m.es.length ec, L m.cm, .bool m.ok, .slice ma m.mb.length mc, .slice da m.da.length dc] 41) = W1 := ⟨_, rfl⟩
  have hk : Ex w W1 := by rw [← hW1]; exact ex_alloc (ex_refl _) _
  have hb : W1.heap[w.heap.size]? = some (.cells #[I m.kd, I m.fr, I m.to, L m.tm, L m.pi, L m.pt, .slice ea m.es.length ec, L m.cm, .bool m.ok, .slice ma m.mb.length mc, .slice da m.da.length dc] 41 (0, 0)) := by rw [← hW1]; exact heap_alloc_new w _
  have hsz : w.heap.size < W1.heap.size := (Array.getElem?_eq_some_iff.1 hb).1
  have k6 := Lib.hid (show W1.cell? ⟨w.heap.size, 6, none⟩ = some (.slice ea m.es.length ec) from (block_cell hb rfl).1)
  have k9 := Lib.hid (show W1.cell? ⟨w.heap.size, 9, none⟩ = some (.slice ma m.mb.length mc) from (block_cell hb rfl).1)
  have k10 := Lib.hid (show W1.cell? ⟨w.heap.size, 10, none⟩ = some (.slice da m.da.length dc) from (block_cell hb rfl).1)
  have O0 := Lib.hid o1
  have O1 := Lib.hid (o1.ex hk)
  have O2 := Lib.hid o2
  have O3 := Lib.hid o3
  have HB := Lib.hid (ex_below hk)
  clear hb o1 o2 o3 hm
  generalize hne : m.es.length = n1 at *
  generalize hnm : m.mb.length = n2 at *
  generalize hnd : m.da.length = n3 at *
  have x6 := k6.out
  go_enter Tryd.func28, Tryd.ntmps28
  go_wp2
  clear x6
  replace hW1 := Lib.hid hW1
  go_loopw [9] (fun i W => ∃ k : Nat, k ≤ n1 ∧ i = I k ∧ Hid (Tg Z W1 W)) (fun i _ => n1 - (intOf i).toNat)
  case atStart => exact ⟨0, by omega, rfl, Lib.hid (by first | exact Tg.refl _ _ | (rw [hW1.out]; exact Tg.refl _ _))⟩
  case round =>
    obtain ⟨k, hk1, rfl, HT⟩ := hrel
    by_cases hlt : k < n1
    · obtain ⟨g, c, t, d, xa, xc, hv, hzg, hgw, hfg0, e0, e2, hs, hdb⟩ := O0.out.at (i := k) (by omega)
      have hgs : g < W1.heap.size := Nat.lt_trans hgw hsz
      have hfg := nofz_ex hfg0 hgw hk
      rw [← ex_cell hk hgw] at e0 e2
      obtain ⟨rfl, rfl, rfl⟩ : ea = some ⟨g, 0, none⟩ ∧ n1 = m.es.length ∧ ec = c := by simpa using hv
      obtain ⟨t', w0⟩ := HT.out.int e0
      have w2 := HT.out.slice e2
      have w6 := HT.out.slice k6.out
      have wf := HT.out.fz g hgs hfg (k * 3)
      have hgz : g < wr.heap.size := Nat.lt_of_lt_of_le hgs HT.out.below.size
      have hbz : w.heap.size < wr.heap.size := Nat.lt_of_lt_of_le hsz HT.out.below.size
      have HT2 := Lib.hid (HT.out.set w0 hzg (IntKind.u64.wrap (t' + 1)))
      have hgne : ¬ g = w.heap.size := by omega
      have hgne2 : ¬ w.heap.size = g := by omega
      have hk2 : (k : Int) < m.es.length := by omega
      have HK := Lib.hid (show k + 1 ≤ m.es.length by omega)
      clear hv
      go_wp2
      replace e2 := Lib.hid e2
      have hdl : d.length ≤ 9223372036854775807 := by
        obtain ⟨_, _, _, h1, h2, _⟩ := hs.out
        unfold maxLen at h2
        omega
      clear w0 w2 w6 wf e0
      go_loopw [28] (fun i W => ∃ q : Nat, q ≤ d.length ∧ i = I q ∧ Hid (Tg Z W1 W)) (fun i _ => d.length - (intOf i).toNat)
      case atStart => exact ⟨0, by omega, rfl, HT2⟩
      case round =>
        obtain ⟨q, hq1, rfl, HT3⟩ := hrel
        by_cases hql : q < d.length
        · obtain ⟨gd, od, b, rfl, hgd, cb⟩ := hs.byte hql
          have hd := hdb gd rfl
          rw [← ex_cell hk hgd] at cb
          obtain ⟨b', v0⟩ := HT3.out.int cb
          have v2 := HT3.out.slice e2.out
          have v6 := HT3.out.slice k6.out
          have vf := HT3.out.fz gd (Nat.lt_trans hgd hsz) (nofz_ex hd.2.2 hgd hk) (od + q)
          have hgz3 := Nat.lt_of_lt_of_le hgs HT3.out.below.size
          have hbz3 := Nat.lt_of_lt_of_le hsz HT3.out.below.size
          have hdz3 := Nat.lt_of_lt_of_le (Nat.lt_trans hgd hsz) HT3.out.below.size
          have HT4 := Lib.hid (HT3.out.set v0 hd.1 ((b' + 1) % 256))
          have hq2 : (q : Int) < d.length := by omega
          have HQ := Lib.hid (show q + 1 ≤ d.length by omega)
          go_wp2
          exact ⟨⟨q + 1, HQ.out, by go_num, HT4⟩, by have := HQ.out; simp [intOf]; omega⟩
        · obtain rfl : q = d.length := by omega
          go_wp2
          exact ⟨⟨k + 1, HK.out, by go_num, HT3⟩, by have := HK.out; simp [intOf]; omega⟩
    · have hkn : k = n1 := by omega
      clear hlt hk1
      have w9 := HT.out.slice k9.out
      have hbz : w.heap.size < wr.heap.size := Nat.lt_of_lt_of_le hsz HT.out.below.size
      go_wp2
      clear w9 hbz
      go_loopw [48] (fun i W => ∃ q : Nat, q ≤ n2 ∧ i = I q ∧ Hid (Tg Z W1 W)) (fun i _ => n2 - (intOf i).toNat)
      case atStart => exact ⟨0, by omega, rfl, HT⟩
      case round =>
        obtain ⟨q, hq1, rfl, HT3⟩ := hrel
        by_cases hql : q < n2
        · have O2' := O2.out
          unfold OwnI at O2'
          rw [hnm] at O2'
          obtain ⟨g, cap, cur, hv, _⟩ := own_block O2' (by omega) (by omega)
          obtain ⟨rfl, rfl⟩ : ma = some ⟨g, 0, none⟩ ∧ mc = cap := by simpa using hv
          obtain ⟨k1, _, hzg, hgw⟩ := own_at KI_len O2' (i := q) (List.getElem?_eq_getElem (by omega))
          have cb := (cellsN_some.1 k1).2 0 (by omega)
          rw [Nat.mul_one, Nat.add_zero, ← ex_cell hk hgw] at cb
          obtain ⟨b', v0⟩ := HT3.out.int (k := .i64) (i := m.mb[q]'(by omega)) cb
          have v9 := HT3.out.slice k9.out
          have vf := HT3.out.fz g (Nat.lt_trans hgw hsz) (nofz_ex (own_nofz O2' rfl) hgw hk) q
          have hbz3 := Nat.lt_of_lt_of_le hsz HT3.out.below.size
          have hdz3 := Nat.lt_of_lt_of_le (Nat.lt_trans hgw hsz) HT3.out.below.size
          have HT4 := Lib.hid (HT3.out.set v0 hzg (wrap64 (b' + 1)))
          have hq2 : (q : Int) < n2 := by omega
          have HQ := Lib.hid (show q + 1 ≤ n2 by omega)
          clear hv cb k1 O2'
          go_wp2
          exact ⟨⟨q + 1, HQ.out, by go_num, HT4⟩, by have := HQ.out; simp [intOf]; omega⟩
        · have hqn : q = n2 := by omega
          clear hql hq1
          have w10 := HT3.out.slice k10.out
          have hbz : w.heap.size < wr.heap.size := Nat.lt_of_lt_of_le hsz HT3.out.below.size
          go_wp2
          clear w10 hbz
          go_loopw [63] (fun i W => ∃ q : Nat, q ≤ n3 ∧ i = I q ∧ Hid (Tg Z W1 W)) (fun i _ => n3 - (intOf i).toNat)
          case atStart => exact ⟨0, by omega, rfl, HT3⟩
          case round =>
            obtain ⟨r, hr1, rfl, HT5⟩ := hrel
            by_cases hrl : r < n3
            · have O3' := O3.out
              unfold OwnL at O3'
              rw [hnd, ← KU_flat] at O3'
              obtain ⟨g, cap, cur, hv, _⟩ := own_block O3' (by omega) (by omega)
              obtain ⟨rfl, rfl⟩ : da = some ⟨g, 0, none⟩ ∧ dc = cap := by simpa using hv
              obtain ⟨cb, _, hzg, hgw⟩ := own_atU O3' (i := r) (List.getElem?_eq_getElem (by omega))
              rw [← ex_cell hk hgw] at cb
              obtain ⟨b', v0⟩ := HT5.out.int cb
              have v10 := HT5.out.slice k10.out
              have vf := HT5.out.fz g (Nat.lt_trans hgw hsz) (nofz_ex (own_nofz O3' rfl) hgw hk) r
              have hbz3 := Nat.lt_of_lt_of_le hsz HT5.out.below.size
              have hdz3 := Nat.lt_of_lt_of_le (Nat.lt_trans hgw hsz) HT5.out.below.size
              have HT6 := Lib.hid (HT5.out.set v0 hzg ((b' + 1) % 256))
              have hr2 : (r : Int) < n3 := by omega
              have HR := Lib.hid (show r + 1 ≤ n3 by omega)
              clear hv cb O3'
              go_wp2
              exact ⟨⟨r + 1, HR.out, by go_num, HT6⟩, by have := HR.out; simp [intOf]; omega⟩
            · go_wp2
              go_end0
              refine ⟨rfl, ?_⟩
              exact (below_of_ex2 hk hz).trans HT5.out.below
end Go.Proofs.YtpcfkjeikhehaaaDoor
