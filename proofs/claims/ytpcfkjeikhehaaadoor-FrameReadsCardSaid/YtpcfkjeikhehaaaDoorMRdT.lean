import Derived.Test.YtpcfkjeikhehaaaDoorMRdH
import Derived.Test.YtpcfkjeikhehaaaDoorMRdK
import Derived.Test.YtpcfkjeikhehaaaDoorMFwB

/- The document's taker, walked. -/
set_option linter.unusedSimpArgs false
set_option linter.unusedVariables false
set_option maxRecDepth 20000
namespace Go.Proofs.YtpcfkjeikhehaaaDoor
open Go.RowKit
/-- The document's taker: what is left, whether there was not what had to be. -/
structure Tk (A w : World) (Z p : Nat) (rest : List UInt8) (bad : Bool) : Prop where
  ex : Ex A w
  hz : Z ≤ w.heap.size
  hp : A.heap.size ≤ p ∧ p < Z
  ll : rest.length ≤ 1000000
  bp : ∃ a c, w.heap[p]? = some (.cells #[.slice a rest.length c, .bool bad] 81 (0, 0)) ∧ SlT A (.slice a rest.length c) rest
def rawD (n : Nat) (r : List UInt8) (b : Bool) : List UInt8 × List UInt8 × Bool := if b = true ∨ r.length < n then ([], r, true) else (r.take n, r.drop n, false)
def numD (r : List UInt8) (b : Bool) : Nat × List UInt8 × Bool := ((longN (longL r)).1, r.drop (longN (longL r)).2, b || (longL r).isNone)
def oneD (r : List UInt8) (b : Bool) : UInt8 × List UInt8 × Bool := (((rawD 1 r b).1)[0]?.getD 0, (rawD 1 r b).2)
section
variable {A w w' : World} {Z p : Nat} {rest : List UInt8} {bad : Bool}
theorem Tk.grow (h : Tk A w Z p rest bad) (k : Ex w w') : Tk A w' Z p rest bad := by
  obtain ⟨a, c, h1, h2⟩ := h.bp
  exact ⟨ex_trans h.ex k, Nat.le_trans h.hz (ex_size k), h.hp, h.ll, a, c, ex_block k h1, h2⟩
theorem Tk.lt (h : Tk A w Z p rest bad) : p < w.heap.size := Nat.lt_of_lt_of_le h.hp.2 h.hz
theorem Tk.setBad (h : Tk A w Z p rest bad) (b : Bool) : Tk A (w.setCell ⟨p, 1, none⟩ (.bool b)) Z p rest b := by
  obtain ⟨a, c, h1, h2⟩ := h.bp
  exact ⟨ex_set h.ex h.hp.1 _, by rw [set_size]; exact h.hz, h.hp, h.ll, a, c, setCell_block _ h1, h2⟩
theorem Tk.setB (h : Tk A w Z p rest bad) {a : Option Addr} {n c : Nat} {r : List UInt8} (hs : SlT A (.slice a n c) r) (hl : r.length ≤ 1000000) : Tk A (w.setCell ⟨p, 0, none⟩ (.slice a n c)) Z p r bad := by
  obtain ⟨a0, c0, h1, h2⟩ := h.bp
  obtain ⟨a2, c2, hv, _⟩ := id hs.out
  obtain ⟨rfl, rfl, rfl⟩ : a = a2 ∧ n = r.length ∧ c = c2 := by simpa using hv
  exact ⟨ex_set h.ex h.hp.1 _, by rw [set_size]; exact h.hz, h.hp, hl, a, c, setCell_block _ h1, hs⟩
end
theorem Tk.lay {A w w' : World} {Z Zb p : Nat} {rest : List UInt8} {bad : Bool} (h : Tk A w Z p rest bad) (k : Below Zb w w') (hz : Z ≤ Zb) : Tk A w' Z p rest bad := by
  obtain ⟨a, c, h1, h2⟩ := h.bp
  have hp := h.hp
  exact ⟨ex_of_below ((ex_below h.ex).trans ⟨k.os, k.tape, k.output, k.size, fun b hb => k.block b (by omega)⟩), Nat.le_trans h.hz k.size, hp, h.ll, a, c, (k.block p (by omega)).trans h1, h2⟩
theorem Mt.lay {p q : Nat} {w w' : World} (k : Below w.heap.size w w') : Mt p q w w' := ⟨k.size, fun b hb _ _ => k.block b hb⟩
set_option maxHeartbeats 1000000 in
theorem traw_any {A w : World} {Z p : Nat} {rest : List UInt8} {bad : Bool} (h : Tk A w Z p rest bad) (n : Nat) (hn : n < 18446744073709551616) :
    Calls Tryd.prog 78 #[PT p, .int .u64 n] w fun x w' => ∃ u, x = .returned u ∧ OwnL w' w.heap.size u (rawD n rest bad).1 ∧ Tk A w' Z p (rawD n rest bad).2.1 (rawD n rest bad).2.2 ∧ Mt p p w w' := by
  obtain ⟨a, c, hb, hs⟩ := h.bp
  have hpz := h.lt
  have hll := h.ll
  have c0 : w.cell? ⟨p, 0, none⟩ = some (.slice a rest.length c) := (block_cell hb rfl).1
  have c1 : w.cell? ⟨p, 1, none⟩ = some (.bool bad) := (block_cell hb rfl).1
  have f0 := (block_cell (o := 0) (v := .slice a rest.length c) hb rfl).2
  have f1 := (block_cell (o := 1) (v := .bool bad) hb rfl).2
  obtain ⟨a9, c9, hv9, k1, k2, k3, _⟩ := id hs.out
  obtain ⟨rfl, rfl⟩ : a = a9 ∧ c = c9 := by simpa using hv9
  have H := Lib.hid h
  have HS := Lib.hid hs
  have hw : IntKind.u64.wrap (rest.length : Int) = rest.length := wrap_u64_nat _ (by omega)
  clear hb hv9 h hs
  unfold maxLen at k2
  cases bad with
  | true =>
    have hr : rawD n rest true = ([], rest, true) := by unfold rawD; rw [if_pos (Or.inl rfl)]
    rw [hr]
    clear hr
    go_enter Tryd.func78, Tryd.ntmps78
    go_wp2
    go_ret
    exact ⟨_, rfl, ownl_nil _ _, H.out.setBad true, (Mt.refl p p w).setP _ _⟩
  | false =>
    by_cases hlt : rest.length < n
    · have hr : rawD n rest false = ([], rest, true) := by unfold rawD; rw [if_pos (Or.inr hlt)]
      rw [hr]
      have hlt2 : (rest.length : Int) < n := by omega
      clear hr
      go_enter Tryd.func78, Tryd.ntmps78
      go_wp2
      go_ret
      exact ⟨_, rfl, ownl_nil _ _, H.out.setBad true, (Mt.refl p p w).setP _ _⟩
    · have hr : rawD n rest false = (rest.take n, rest.drop n, false) := by unfold rawD; rw [if_neg (by simp [hlt])]
      rw [hr]
      have hlt2 : ¬ (rest.length : Int) < n := by omega
      have hnc : (n : Int) ≤ c := by omega
      clear hr
      cases a with
      | none =>
        obtain rfl := k3 rfl
        have hn0 : n = 0 := by omega
        have hr0 : rest.length = 0 := by omega
        subst hn0
        have HT : SlT A (.slice none 0 0) (rest.take 0) := by rw [List.take_zero]; exact slt_zero (by decide) (fun _ => rfl)
        have HF : SlT A (.slice none 0 0) (rest.drop 0) := by rw [List.drop_zero, List.eq_nil_of_length_eq_zero hr0]; exact slt_zero (by decide) (fun _ => rfl)
        replace HT := Lib.hid HT
        replace HF := Lib.hid HF
        clear k3 hnc hlt hlt2
        have H5 := H.out.setB HF.out (by simp; omega)
        have M5 := (Mt.refl p p w).setP 0 (.slice none 0 0)
        have hs5 : (w.setCell ⟨p, 0, none⟩ (.slice none 0 0)).heap.size = w.heap.size := set_size _ _ _
        replace H5 := Lib.hid H5
        replace M5 := Lib.hid M5
        replace hs5 := Lib.hid hs5
        go_enter Tryd.func78, Tryd.ntmps78
        go_wp2
        go_ret
        exact ⟨_, rfl, by rw [List.take_zero]; exact ownl_empty (ex_refl _) hs5.out.symm (by rw [hs5.out]; exact Nat.le_refl _), H5.out.grow (ex_alloc (ex_refl _) _), M5.out.trans (Mt.ex (ex_alloc (ex_refl _) _))⟩
      | some ad =>
        by_cases hc : c = n
        · have hrn : rest.length = n := by omega
          subst hc
          have HT : SlT A (.slice (some ad) c c) (rest.take c) := HS.out.take c (by omega)
          have HF : SlT A (.slice (some ad) 0 0) (rest.drop c) := by rw [List.drop_of_length_le (by omega)]; exact slt_zero (by decide) (fun h => by cases h)
          replace HT := Lib.hid HT
          replace HF := Lib.hid HF
          have H5 := H.out.setB HF.out (by rw [List.length_drop]; omega)
          have M5 := (Mt.refl p p w).setP 0 (.slice (some ad) 0 0)
          have hs5 : (w.setCell ⟨p, 0, none⟩ (.slice (some ad) 0 0)).heap.size = w.heap.size := set_size _ _ _
          have hz5 := H.out.hz
          replace H5 := Lib.hid H5
          replace M5 := Lib.hid M5
          replace hs5 := Lib.hid hs5
          go_enter Tryd.func78, Tryd.ntmps78
          go_wp2_with (at_builtin; refine wpAppT (Z := w.heap.size) (l := []) _ _ rfl rfl (ownl_empty (ex_refl _) hs5.out.symm (by rw [hs5.out]; exact Nat.le_refl _)) rfl rfl (HT.out.ex (ex_alloc H5.out.ex _)) (by rw [List.length_take]; simp; omega) (by simp [go_sem]) (fun v6 w6 hO hA => ?_); have hB6 := (below_of_ex (w := w.setCell ⟨p, 0, none⟩ (.slice (some ad) 0 0)) (ex_alloc (ex_refl _) _) (Nat.le_of_eq hs5.out.symm)).trans (hA.below (Z := w.heap.size) (by simp [go_sem]) (fun g hg => by cases hg; exact Nat.le_refl _)); clear hA; replace hB6 := Lib.hid hB6; replace hO := Lib.hid hO)
          go_ret
          exact ⟨_, rfl, by simpa using hO.out, H5.out.lay hB6.out hz5, M5.out.trans ⟨hB6.out.size, fun b hb _ _ => hB6.out.block b (by rw [hs5.out] at hb; exact hb)⟩⟩
        · have hc3 : ¬ (c : Int) = n := by omega
          have HT : SlT A (.slice (some ad) n c) (rest.take n) := HS.out.take n (by omega)
          have HF : SlT A (.slice (some (ad.add n)) (rest.length - n) (c - n)) (rest.drop n) := HS.out.from n (by omega)
          replace HT := Lib.hid HT
          replace HF := Lib.hid HF
          have H5 := H.out.setB HF.out (by rw [List.length_drop]; omega)
          have M5 := (Mt.refl p p w).setP 0 (.slice (some (ad.add n)) (rest.length - n) (c - n))
          have hs5 : (w.setCell ⟨p, 0, none⟩ (.slice (some (ad.add n)) (rest.length - n) (c - n))).heap.size = w.heap.size := set_size _ _ _
          have hz5 := H.out.hz
          replace H5 := Lib.hid H5
          replace M5 := Lib.hid M5
          replace hs5 := Lib.hid hs5
          go_enter Tryd.func78, Tryd.ntmps78
          go_wp2_with (at_builtin; refine wpAppT (Z := w.heap.size) (l := []) _ _ rfl rfl (ownl_empty (ex_refl _) hs5.out.symm (by rw [hs5.out]; exact Nat.le_refl _)) rfl rfl (HT.out.ex (ex_alloc H5.out.ex _)) (by rw [List.length_take]; simp; omega) (by simp [go_sem]) (fun v6 w6 hO hA => ?_); have hB6 := (below_of_ex (w := w.setCell ⟨p, 0, none⟩ (.slice (some (ad.add n)) (rest.length - n) (c - n))) (ex_alloc (ex_refl _) _) (Nat.le_of_eq hs5.out.symm)).trans (hA.below (Z := w.heap.size) (by simp [go_sem]) (fun g hg => by cases hg; exact Nat.le_refl _)); clear hA; replace hB6 := Lib.hid hB6; replace hO := Lib.hid hO)
          go_ret
          exact ⟨_, rfl, by simpa using hO.out, H5.out.lay hB6.out hz5, M5.out.trans ⟨hB6.out.size, fun b hb _ _ => hB6.out.block b (by rw [hs5.out] at hb; exact hb)⟩⟩
theorem rawD1 (r : List UInt8) (b : Bool) : ((rawD 1 r b).2.2 = true ∧ (rawD 1 r b).1 = []) ∨ ((rawD 1 r b).2.2 = false ∧ ∃ c, (rawD 1 r b).1 = [c]) := by
  unfold rawD
  split
  · exact Or.inl ⟨rfl, rfl⟩
  · rename_i h
    refine Or.inr ⟨rfl, ?_⟩
    match r, h with
    | [], h => exact absurd (Or.inr (by simp)) h
    | c :: r, _ => exact ⟨c, rfl⟩
theorem tone_any {A w : World} {Z p : Nat} {rest : List UInt8} {bad : Bool} (h : Tk A w Z p rest bad) :
    Calls Tryd.prog 50 #[PT p] w fun x w' => x = .returned (B (oneD rest bad).1) ∧ Tk A w' Z p (oneD rest bad).2.1 (oneD rest bad).2.2 ∧ Mt p p w w' := by
  have HR := traw_any h 1 (by omega)
  rw [show Value.int .u64 ((1 : Nat) : Int) = .int .u64 1 from rfl] at HR
  replace HR := Lib.hid HR
  have h1 := rawD1 rest bad
  unfold oneD
  generalize rawD 1 rest bad = r at *
  obtain ⟨d, r1, b1⟩ := r
  simp only at HR h1 ⊢
  clear h
  rcases h1 with ⟨rfl, rfl⟩ | ⟨rfl, c, rfl⟩
  · rw [show (([] : List UInt8)[0]?.getD 0) = 0 from rfl]
    go_enter Tryd.func50, Tryd.ntmps50
    go_wp2_with (go_at_call 78; (with_reducible refine (HR.out).mono ?_); rintro e w2 ⟨u, rfl, hO, H2, M2⟩; obtain ⟨a2, c2, hb2, _⟩ := H2.bp; have b1 := (block_cell (o := 1) (v := .bool true) hb2 rfl).1; have pz := H2.lt; clear hb2; replace H2 := Lib.hid H2; replace hO := Lib.hid hO)
    go_ret
    exact ⟨rfl, H2.out, M2⟩
  · rw [show ([c][0]?.getD 0) = c from rfl]
    go_enter Tryd.func50, Tryd.ntmps50
    go_wp2_with (go_at_call 78; (with_reducible refine (HR.out).mono ?_); rintro e w2 ⟨u, rfl, hO, H2, M2⟩; obtain ⟨a2, c2, hb2, _⟩ := H2.bp; have b1 := (block_cell (o := 1) (v := .bool false) hb2 rfl).1; have pz := H2.lt; clear hb2; replace H2 := Lib.hid H2; obtain ⟨g, cap, cur, hv, _⟩ := own_block hO (by simp) (by omega); obtain rfl := hv; obtain ⟨e0, _, _, e3⟩ := own_atU (l := [c]) (n := 1) (by have := hO; unfold OwnL at this; rw [← KU_flat] at this; exact this) (i := 0) rfl; clear hO)
    go_ret
    exact ⟨rfl, H2.out, M2⟩
theorem tnum_any {A w : World} {Z p : Nat} {rest : List UInt8} {bad : Bool} (h : Tk A w Z p rest bad) :
    Calls Tryd.prog 51 #[PT p] w fun x w' => x = .returned (.int .u64 ((numD rest bad).1 : Nat)) ∧ Tk A w' Z p (numD rest bad).2.1 (numD rest bad).2.2 ∧ Mt p p w w' := by
  obtain ⟨a, c, hb, hs⟩ := h.bp
  have hpz := h.lt
  have hll := h.ll
  have c0 : w.cell? ⟨p, 0, none⟩ = some (.slice a rest.length c) := (block_cell hb rfl).1
  obtain ⟨a9, c9, hv9, k1, k2, k3, _⟩ := id hs.out
  obtain ⟨rfl, rfl⟩ : a = a9 ∧ c = c9 := by simpa using hv9
  have H := Lib.hid h
  have HSA := Lib.hid hs
  have HS := Lib.hid (hs.ex h.ex)
  have HV := Lib.hid (longV_eq (longL rest))
  have hn := (longN_le rest).1
  unfold numD
  have hbo : (longL rest).isNone = !(longL rest).isSome := by cases longL rest <;> rfl
  rw [hbo]
  clear hb hv9 h hs hbo
  generalize (longN (longL rest)).1 = x at *
  generalize (longN (longL rest)).2 = n at *
  generalize (longL rest).isSome = ok at *
  unfold maxLen at k2
  have hnc : (n : Int) ≤ c := by omega
  have hnl : (n : Int) ≤ rest.length := by omega
  cases a with
  | none =>
    obtain rfl := k3 rfl
    have hn0 : n = 0 := by omega
    have hr0 : rest.length = 0 := by omega
    subst hn0
    have HF : SlT A (.slice none 0 0) (rest.drop 0) := by rw [List.drop_zero, List.eq_nil_of_length_eq_zero hr0]; exact slt_zero (by decide) (fun _ => rfl)
    replace HF := Lib.hid HF
    have hl := H.out.ll
    clear k3 hnc hnl hn hr0
    cases bad
    ·
      go_enter Tryd.func51, Tryd.ntmps51
      go_wp2_with (go_at_call 14; (with_reducible refine (reflong_any _ _ _ HS.out).mono ?_); rw [HV.out]; rintro e w2 ⟨rfl, k2⟩; have H2 := H.out.grow k2; have M2 : Mt p p w w2 := Mt.ex k2; obtain ⟨a2, c2, hb2, hs2⟩ := H2.bp; have d1 := (block_cell (o := 1) (v := .bool false) hb2 rfl); have pz2 := H2.lt; have e0 : w2.cell? ⟨p, 0, none⟩ = some _ := (ex_cell k2 hpz).trans c0; have g0 : w2.frozen? ⟨p, 0, none⟩ = false := (block_cell (o := 0) (v := .slice a2 rest.length c2) hb2 rfl).2; obtain ⟨d1, f1⟩ := d1; clear hb2; replace H2 := Lib.hid H2; replace M2 := Lib.hid M2; replace hs2 := Lib.hid hs2; clear k2)
      go_ret
      exact ⟨rfl, (H2.out.setBad _).setB HF.out (by rw [List.length_drop]; omega), (M2.out.setP _ _).setP _ _⟩
    ·
      go_enter Tryd.func51, Tryd.ntmps51
      go_wp2_with (go_at_call 14; (with_reducible refine (reflong_any _ _ _ HS.out).mono ?_); rw [HV.out]; rintro e w2 ⟨rfl, k2⟩; have H2 := H.out.grow k2; have M2 : Mt p p w w2 := Mt.ex k2; obtain ⟨a2, c2, hb2, hs2⟩ := H2.bp; have d1 := (block_cell (o := 1) (v := .bool true) hb2 rfl); have pz2 := H2.lt; have e0 : w2.cell? ⟨p, 0, none⟩ = some _ := (ex_cell k2 hpz).trans c0; have g0 : w2.frozen? ⟨p, 0, none⟩ = false := (block_cell (o := 0) (v := .slice a2 rest.length c2) hb2 rfl).2; obtain ⟨d1, f1⟩ := d1; clear hb2; replace H2 := Lib.hid H2; replace M2 := Lib.hid M2; replace hs2 := Lib.hid hs2; clear k2)
      go_ret
      exact ⟨rfl, (H2.out.setBad _).setB HF.out (by rw [List.length_drop]; omega), (M2.out.setP _ _).setP _ _⟩
  | some ad =>
    by_cases hc : c = n
    · have hrn : rest.length = n := by omega
      subst hc
      have HF : SlT A (.slice (some ad) 0 0) (rest.drop c) := by rw [List.drop_of_length_le (by omega)]; exact slt_zero (by decide) (fun h => by cases h)
      replace HF := Lib.hid HF
      clear hrn
      cases bad
      ·
        go_enter Tryd.func51, Tryd.ntmps51
        go_wp2_with (go_at_call 14; (with_reducible refine (reflong_any _ _ _ HS.out).mono ?_); rw [HV.out]; rintro e w2 ⟨rfl, k2⟩; have H2 := H.out.grow k2; have M2 : Mt p p w w2 := Mt.ex k2; obtain ⟨a2, c2, hb2, hs2⟩ := H2.bp; have d1 := (block_cell (o := 1) (v := .bool false) hb2 rfl); have pz2 := H2.lt; have e0 : w2.cell? ⟨p, 0, none⟩ = some _ := (ex_cell k2 hpz).trans c0; have g0 : w2.frozen? ⟨p, 0, none⟩ = false := (block_cell (o := 0) (v := .slice a2 rest.length c2) hb2 rfl).2; obtain ⟨d1, f1⟩ := d1; clear hb2; replace H2 := Lib.hid H2; replace M2 := Lib.hid M2; replace hs2 := Lib.hid hs2; clear k2)
        go_ret
        exact ⟨rfl, (H2.out.setBad _).setB HF.out (by rw [List.length_drop]; omega), (M2.out.setP _ _).setP _ _⟩
      ·
        go_enter Tryd.func51, Tryd.ntmps51
        go_wp2_with (go_at_call 14; (with_reducible refine (reflong_any _ _ _ HS.out).mono ?_); rw [HV.out]; rintro e w2 ⟨rfl, k2⟩; have H2 := H.out.grow k2; have M2 : Mt p p w w2 := Mt.ex k2; obtain ⟨a2, c2, hb2, hs2⟩ := H2.bp; have d1 := (block_cell (o := 1) (v := .bool true) hb2 rfl); have pz2 := H2.lt; have e0 : w2.cell? ⟨p, 0, none⟩ = some _ := (ex_cell k2 hpz).trans c0; have g0 : w2.frozen? ⟨p, 0, none⟩ = false := (block_cell (o := 0) (v := .slice a2 rest.length c2) hb2 rfl).2; obtain ⟨d1, f1⟩ := d1; clear hb2; replace H2 := Lib.hid H2; replace M2 := Lib.hid M2; replace hs2 := Lib.hid hs2; clear k2)
        go_ret
        exact ⟨rfl, (H2.out.setBad _).setB HF.out (by rw [List.length_drop]; omega), (M2.out.setP _ _).setP _ _⟩
    · have hc3 : ¬ (c : Int) = n := by omega
      have HF : SlT A (.slice (some (ad.add n)) (rest.length - n) (c - n)) (rest.drop n) := HSA.out.from n (by omega)
      replace HF := Lib.hid HF
      cases bad
      ·
        go_enter Tryd.func51, Tryd.ntmps51
        go_wp2_with (go_at_call 14; (with_reducible refine (reflong_any _ _ _ HS.out).mono ?_); rw [HV.out]; rintro e w2 ⟨rfl, k2⟩; have H2 := H.out.grow k2; have M2 : Mt p p w w2 := Mt.ex k2; obtain ⟨a2, c2, hb2, hs2⟩ := H2.bp; have d1 := (block_cell (o := 1) (v := .bool false) hb2 rfl); have pz2 := H2.lt; have e0 : w2.cell? ⟨p, 0, none⟩ = some _ := (ex_cell k2 hpz).trans c0; have g0 : w2.frozen? ⟨p, 0, none⟩ = false := (block_cell (o := 0) (v := .slice a2 rest.length c2) hb2 rfl).2; obtain ⟨d1, f1⟩ := d1; clear hb2; replace H2 := Lib.hid H2; replace M2 := Lib.hid M2; replace hs2 := Lib.hid hs2; clear k2)
        go_ret
        exact ⟨rfl, (H2.out.setBad _).setB HF.out (by rw [List.length_drop]; omega), (M2.out.setP _ _).setP _ _⟩
      ·
        go_enter Tryd.func51, Tryd.ntmps51
        go_wp2_with (go_at_call 14; (with_reducible refine (reflong_any _ _ _ HS.out).mono ?_); rw [HV.out]; rintro e w2 ⟨rfl, k2⟩; have H2 := H.out.grow k2; have M2 : Mt p p w w2 := Mt.ex k2; obtain ⟨a2, c2, hb2, hs2⟩ := H2.bp; have d1 := (block_cell (o := 1) (v := .bool true) hb2 rfl); have pz2 := H2.lt; have e0 : w2.cell? ⟨p, 0, none⟩ = some _ := (ex_cell k2 hpz).trans c0; have g0 : w2.frozen? ⟨p, 0, none⟩ = false := (block_cell (o := 0) (v := .slice a2 rest.length c2) hb2 rfl).2; obtain ⟨d1, f1⟩ := d1; clear hb2; replace H2 := Lib.hid H2; replace M2 := Lib.hid M2; replace hs2 := Lib.hid hs2; clear k2)
        go_ret
        exact ⟨rfl, (H2.out.setBad _).setB HF.out (by rw [List.length_drop]; omega), (M2.out.setP _ _).setP _ _⟩
end Go.Proofs.YtpcfkjeikhehaaaDoor
