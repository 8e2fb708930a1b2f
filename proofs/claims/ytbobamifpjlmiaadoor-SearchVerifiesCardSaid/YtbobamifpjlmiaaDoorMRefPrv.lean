import Derived.Test.YtbobamifpjlmiaaDoorMSameP

/- The document's span of a range. -/
set_option linter.unusedSimpArgs false
set_option linter.unusedVariables false
set_option maxRecDepth 20000
namespace Go.Proofs.YtbobamifpjlmiaaDoor
open Go.RowKit
theorem below_lt {l : List Pr} {k : ByteArray} : ∀ j, j < belowN l k → ltS (prAt l j).1 k = true := by
  induction l with
  | nil => intro j hj; simp [belowN] at hj
  | cons p l ih =>
    intro j hj
    unfold belowN at hj
    rw [List.takeWhile_cons] at hj
    cases hp : ltS p.1 k with
    | false => rw [hp] at hj; simp at hj
    | true =>
      rw [hp] at hj
      cases j with
      | zero => exact hp
      | succ j => exact ih j (by simpa [belowN] using hj)
theorem below_at {l : List Pr} {k : ByteArray} : belowN l k < l.length → ltS (prAt l (belowN l k)).1 k = false := by
  induction l with
  | nil => intro h; simp at h
  | cons p l ih =>
    intro h
    unfold belowN at h ⊢
    rw [List.takeWhile_cons] at h ⊢
    cases hp : ltS p.1 k with
    | false => exact hp
    | true =>
      rw [hp] at h
      simp only [if_true, List.length_cons] at h ⊢
      exact ih (by unfold belowN; omega)
theorem below_ge {l : List Pr} {k : ByteArray} (hr : rightP l = true) {j : Nat} (h : belowN l k ≤ j) (hj : j < l.length) : ltS (prAt l j).1 k = false := by
  have h0 := below_at (l := l) (k := k) (by omega)
  rcases Nat.lt_or_ge (belowN l k) j with h2 | h2
  · cases hb : ltS (prAt l j).1 k with
    | false => rfl
    | true => rw [ltS_trans (sorted_lt hr j _ h2 hj) hb] at h0; cases h0
  · obtain rfl : j = belowN l k := by omega
    exact h0
/-- Where the document's second loop ends. -/
theorem end_doc {l : List Pr} {r : Rg} (hr : rightP l = true) {e : Nat} (h1 : belowN l r.lo ≤ e) (h2 : e ≤ l.length) (h3 : ∀ j, belowN l r.lo ≤ j → j < e → inP r (prAt l j).1 = true) (h4 : e < l.length → inP r (prAt l e).1 = false) :
    e = if r.op then l.length else max (belowN l r.lo) (belowN l r.hi) := by
  have hin : ∀ j, belowN l r.lo ≤ j → j < l.length → inP r (prAt l j).1 = (r.op || ltS (prAt l j).1 r.hi) := fun j h5 h6 => by unfold inP; rw [below_ge hr h5 h6]; simp
  cases hop : r.op with
  | true =>
    simp only [if_true]
    rcases Nat.lt_or_ge e l.length with h | h
    · have := h4 h
      rw [hin e h1 h, hop] at this
      simp at this
    · omega
  | false =>
    simp only [Bool.false_eq_true, if_false]
    have hh := below_le l r.hi
    rcases Nat.lt_trichotomy e (max (belowN l r.lo) (belowN l r.hi)) with h | h | h
    · have h5 := h4 (by have := below_le l r.lo; omega)
      have h6 : e < belowN l r.hi := by omega
      rw [hin e h1 (by omega), hop, below_lt e h6] at h5
      simp at h5
    · exact h
    · have h7 := h3 (e - 1) (by omega) (by omega)
      rw [hin (e - 1) (by omega) (by omega), hop, below_ge hr (by omega) (by omega)] at h7
      simp at h7
/-- A span alone. -/
def PostSq (W : World) (t f : Int) (ps : List Pr) (qs : List Dg) (e : Ending) (w' : World) : Prop := ∃ pa pc qa qc, e = .returned (.agg #[I t, I f, .slice pa ps.length pc, .slice qa qs.length qc]) ∧
  (ps.length ≤ pc ∧ pc ≤ maxLen ∧ (pa = none → pc = 0) ∧ SlP w' pa ps) ∧ (qs.length ≤ qc ∧ qc ≤ maxLen ∧ (qa = none → qc = 0) ∧ SlD w' qa qs) ∧ ∃ X, w' = wx W X
abbrev wR (w : World) (lo hi : ByteArray) (op : Bool) : World := (w.alloc (.cells #[.string lo, .string hi, .bool op] 55)).alloc (.cells #[I 0, I 0, .slice none 0 0, .slice none 0 0] 65)
theorem wR_facts {w wr : World} {lo hi : ByteArray} {op : Bool} (k : Ex (wR w lo hi op) wr) : wr.cell? ⟨w.heap.size, 0, none⟩ = some (.string lo) ∧ wr.cell? ⟨w.heap.size, 1, none⟩ = some (.string hi) ∧ wr.cell? ⟨w.heap.size, 2, none⟩ = some (.bool op) ∧ w.heap.size < wr.heap.size ∧
    wr.heap[w.heap.size + 1]? = some (.cells #[I 0, I 0, .slice none 0 0, .slice none 0 0] 65 (0, 0)) := by
  have k1 : Ex (w.alloc (.cells #[.string lo, .string hi, .bool op] 55)) wr := ex_trans (by (try show Ex _ _); repeat (first | (with_reducible exact ex_refl _) | (with_reducible assumption) | (with_reducible refine ex_drewL ?_) | (with_reducible refine ex_appR ?_ _) | (with_reducible refine ex_wx ?_ _) | (with_reducible refine ex_drew ?_) | (with_reducible refine ex_alloc ?_ _))) k
  have hb := ex_block k1 (heap_alloc_new w _)
  have hb2 := ex_block k (heap_alloc_new _ _)
  have h3 : (w.alloc (.cells #[.string lo, .string hi, .bool op] 55)).heap.size = w.heap.size + 1 := by simp [go_sem]
  rw [h3] at hb2
  exact ⟨(block_cell hb rfl).1, (block_cell hb rfl).1, (block_cell hb rfl).1, (Array.getElem?_eq_some_iff.1 hb).1, hb2⟩
theorem rp_cells {wr wE : World} {b4 : Nat} {z4 : Array Value} {t : TypeId} {vs : List Value} (hb : wr.heap[b4]? = some (.cells z4 t (0, 0))) (hz : z4.size = 4) (hv : vs.length = 4) (k : Ex (wr.setCells b4 0 vs) wE) : cellsN wE b4 0 4 = some vs.toArray := by
  have h := setCells_block b4 t (0, 0) vs 0 _ _ hb
  rw [spliceA_all _ _ (by rw [hv, hz])] at h
  exact (block_cells (ex_block k h) (by simpa using hv)).1
theorem heap_more_eq {u v : World} (X : More) (hs : u.heap.size = v.heap.size) {g : Nat} (hg : u.heap.size ≤ g) : (wx u X).heap[g]? = (wx v X).heap[g]? := by
  obtain ⟨k, rfl⟩ : ∃ k, g = u.heap.size + k := ⟨g - u.heap.size, by omega⟩
  rw [wx_heap_more, hs, wx_heap_more]
theorem rp_path {wr : World} {b4 : Nat} {vs : List Value} {X3 X4 : More} {A B : Obj} {v : Value} {qs : List Dg} (h : OwnD (wx ((wx wr X3).alloc A) X4) ((wx wr X3).alloc A).heap.size v qs) :
    OwnD (wx ((wx (wr.setCells b4 0 vs) X3).alloc B) X4) ((wx wr X3).alloc A).heap.size v qs := by
  have hs : ((wx (wr.setCells b4 0 vs) X3).alloc B).heap.size = ((wx wr X3).alloc A).heap.size := by
    simp [World.alloc, wx, setCells_size]
  exact own_kept h fun g hg => heap_more_eq X4 hs (by rw [hs]; exact (h.lt g hg).1)
theorem rp_path2 {wr : World} {b4 : Nat} {vs : List Value} {X4 : More} {A B : Obj} {v : Value} {qs : List Dg} (h : OwnD (wx (wr.alloc A).drew X4) (wr.alloc A).drew.heap.size v qs) :
    OwnD (wx ((wr.setCells b4 0 vs).alloc B) X4) (wr.alloc A).drew.heap.size v qs := by
  have hs : ((wr.setCells b4 0 vs).alloc B).heap.size = (wr.alloc A).drew.heap.size := by
    show ((wr.setCells b4 0 vs).heap.push B).size = (wr.heap.push A).size
    rw [Array.size_push, Array.size_push, setCells_size]
  exact own_kept h fun g hg => heap_more_eq (v := (wr.alloc A).drew) X4 hs (by rw [hs]; exact (h.lt g hg).1)
set_option maxHeartbeats 8000000 in
theorem docprove_any (l : List Pr) (r : Rg) (a : Option Addr) (c : Nat) (w : World) (hc : l.length ≤ c) (hcm : c ≤ maxLen) (ha : a = none → c = 0) (hs : SlP w a l) (hr : rightP l = true) (hpos : 0 < l.length) :
    Calls Tryd.prog 46 #[.slice a l.length c, .agg (RC r)] w (PostSq w l.length (firstP l r) (pairsP l r) (pathS l r)) := by
  have hL := right_len hr
  obtain ⟨lo, hi, op⟩ := r
  unfold RC
  simp only
  have HS : Hid (∀ W, Ex w W → ∀ i, i < l.length → ∃ g off, a = some ⟨g, off, none⟩ ∧ g < W.heap.size ∧ cellsN W g (off + i * 2) 2 = some (PC (prAt l i)) ∧ W.cell? ⟨g, off + i * 2, none⟩ = some (.string (prAt l i).1) ∧ W.cell? ⟨g, off + i * 2 + 1, none⟩ = some (.string (prAt l i).2)) := Lib.hid fun W k i hi => (hs.ex k).row hi
  have HU : Hid (∀ n, n ≤ l.length → (∀ j, j < n → ltS (prAt l j).1 lo = true) → (n < l.length → ltS (prAt l n).1 lo = false) → n = belowN l lo) := Lib.hid fun n => below_uniq
  have HED : Hid (∀ e, belowN l lo ≤ e → e ≤ l.length → (∀ j, belowN l lo ≤ j → j < e → inP ⟨lo, hi, op⟩ (prAt l j).1 = true) → (e < l.length → inP ⟨lo, hi, op⟩ (prAt l e).1 = false) → min (e + 1) l.length = endP l ⟨lo, hi, op⟩) := Lib.hid fun e h1 h2 h3 h4 => by
    have := end_doc (r := ⟨lo, hi, op⟩) hr h1 h2 h3 h4
    unfold endP
    rw [← this]
  have HFP : Hid (belowN l lo - 1 = firstP l ⟨lo, hi, op⟩) := Lib.hid rfl
  generalize hn : l.length = n at *
  go_enter Tryd.func46, Tryd.ntmps46
  go_wp2
  go_loopw [5] (fun i wr => ∃ k : Nat, k ≤ n ∧ i = I k ∧ Hid (∀ j, j < k → ltS (prAt l j).1 lo = true) ∧ Ex (wR w lo hi op) wr) (fun i _ => n - (intOf i).toNat)
  case atStart => exact ⟨0, by omega, rfl, Lib.hid (fun j hj => absurd hj (by omega)), (by (try show Ex _ _); repeat (first | (with_reducible exact ex_refl _) | (with_reducible assumption) | (with_reducible refine ex_drewL ?_) | (with_reducible refine ex_appR ?_ _) | (with_reducible refine ex_wx ?_ _) | (with_reducible refine ex_drew ?_) | (with_reducible refine ex_alloc ?_ _)))⟩
  case round =>
    obtain ⟨k, hk, rfl, HK, kr⟩ := hrel
    obtain ⟨s0, s1, s2, s3, s4⟩ := wR_facts kr
    have Kw : Ex w wr := ex_trans (by (try show Ex _ _); repeat (first | (with_reducible exact ex_refl _) | (with_reducible assumption) | (with_reducible refine ex_drewL ?_) | (with_reducible refine ex_appR ?_ _) | (with_reducible refine ex_wx ?_ _) | (with_reducible refine ex_drew ?_) | (with_reducible refine ex_alloc ?_ _))) kr
    by_cases hlt : k < n
    · obtain ⟨g, off, rfl, r1, _, r2, _⟩ := HS.out wr Kw k hlt
      have d1 : decide ((k : Int) < n) = true := decide_eq_true (by omega)
      have d2 : decide (k < n) = true := decide_eq_true hlt
      have HKn : Hid (ltS (prAt l k).1 lo = true → ∀ j, j < k + 1 → ltS (prAt l j).1 lo = true) := Lib.hid fun h j hj => by
        rcases Nat.lt_or_ge j k with h2 | h2
        · exact HK.out j h2
        · obtain rfl : j = k := by omega
          exact h
      have HX : Hid (ltS (prAt l k).1 lo = false → k = belowN l lo) := Lib.hid fun h => HU.out k hk HK.out fun _ => h
      obtain ⟨b, hb⟩ : ∃ b, ltS (prAt l k).1 lo = b := ⟨_, rfl⟩
      rw [hb] at HKn HX
      generalize hkk : (prAt l k).1 = kk at r2 hb
      replace hkk := Lib.hid hkk
      unfold ltS at hb
      clear s4
      cases b
      · have hf := Lib.hid (HX.out rfl)
        clear HKn HX
        go_wp2
        refine wp_region_seq [(0, true), (1, true), (2, true), (3, true), (4, true), (5, true), (6, true), (7, true), (8, true), (9, true), (10, true), (11, true), (12, true), (13, true)] (by kernel_rfl) (by kernel_rfl) (fun _ _ d _ _ h => by cases d <;> exact h) ?_
        simp only [List.map_cons, List.map_nil, nth]
        repeat (first | ((with_reducible refine wpSeq_look ?_); go_big_quiet_step (fail); (with_reducible refine wpQuiet_nil ?_)) | ((with_reducible refine wpSeq_effF ?_ ?_); (focus rfl); go_simp) | ((with_reducible refine wpSeq_eff ?_ ?_); (focus rfl); (try dsimp only); go_wp2_with (fail); refine mixQ_mk (by (try show Ex _ _); repeat (first | (with_reducible exact ex_refl _) | (with_reducible assumption) | (with_reducible refine ex_drewL ?_) | (with_reducible refine ex_appR ?_ _) | (with_reducible refine ex_wx ?_ _) | (with_reducible refine ex_drew ?_) | (with_reducible refine ex_alloc ?_ _))) ?_))
        refine wpSeq_nil ?_
        go_wp2
        clear hb s0 s1 s2 s3 r1 r2 d1 d2
        go_loopw [6] (fun i wr => ∃ e : Nat, k ≤ e ∧ e ≤ n ∧ i = I e ∧ Hid (∀ j, k ≤ j → j < e → inP ⟨lo, hi, op⟩ (prAt l j).1 = true) ∧ Ex (wR w lo hi op) wr) (fun i _ => n - (intOf i).toNat)
        case atStart => exact ⟨k, by omega, by omega, rfl, Lib.hid (fun j hj hj2 => absurd hj2 (by omega)), (by (try show Ex _ _); repeat (first | (with_reducible exact ex_refl _) | (with_reducible assumption) | (with_reducible refine ex_drewL ?_) | (with_reducible refine ex_appR ?_ _) | (with_reducible refine ex_wx ?_ _) | (with_reducible refine ex_drew ?_) | (with_reducible refine ex_alloc ?_ _)))⟩
        case round =>
          obtain ⟨e, hke, hen, rfl, HK2, kr2⟩ := hrel
          by_cases hlt2 : e < n
          · obtain ⟨q0, q1, q2, q3, _⟩ := wR_facts kr2
            obtain ⟨g2, off2, he2, t1, _, t2, _⟩ := HS.out wr (ex_trans (by (try show Ex _ _); repeat (first | (with_reducible exact ex_refl _) | (with_reducible assumption) | (with_reducible refine ex_drewL ?_) | (with_reducible refine ex_appR ?_ _) | (with_reducible refine ex_wx ?_ _) | (with_reducible refine ex_drew ?_) | (with_reducible refine ex_alloc ?_ _))) kr2) e hlt2
            cases he2
            have f1 : decide ((e : Int) < n) = true := decide_eq_true (by omega)
            have f2 : decide (e < n) = true := decide_eq_true hlt2
            have HIN := Lib.hid (fun w' => refin_any ⟨lo, hi, op⟩ (prAt l e).1 w')
            unfold RC at HIN
            have HKn2 : Hid (inP ⟨lo, hi, op⟩ (prAt l e).1 = true → ∀ j, k ≤ j → j < e + 1 → inP ⟨lo, hi, op⟩ (prAt l j).1 = true) := Lib.hid fun h j hj hj2 => by
              rcases Nat.lt_or_ge j e with h2 | h2
              · exact HK2.out j hj h2
              · obtain rfl : j = e := by omega
                exact h
            obtain ⟨b2, hb2⟩ : ∃ b, inP ⟨lo, hi, op⟩ (prAt l e).1 = b := ⟨_, rfl⟩
            have HB2 := Lib.hid hb2
            rw [hb2] at HIN HKn2
            clear hb2
            simp only at HIN
            generalize hke2 : (prAt l e).1 = ke at t2 HIN
            replace hke2 := Lib.hid hke2
            cases b2
            · have HEN := Lib.hid (HED.out e (by rw [← hf.out]; exact hke) hen (by rw [← hf.out]; exact HK2.out) (fun _ => HB2.out))
              clear HKn2 HB2 hke2
              obtain ⟨E, hE⟩ : ∃ E, e + 1 = E := ⟨_, rfl⟩
              have hE2 : (e : Int) + 1 = E := by omega
              have HEE : Hid (E = endP l ⟨lo, hi, op⟩) := Lib.hid (by have := HEN.out; omega)
              clear hE q0 q1 q2 q3
              by_cases hk0 : k = 0
              · have hk1 : decide ((0 : Int) < k) = false := decide_eq_false (by omega)
                have hk2 : decide (0 < k) = false := decide_eq_false (by omega)
                have hk3 : decide (k = 0) = true := decide_eq_true hk0
                have HFF : Hid (k = firstP l ⟨lo, hi, op⟩) := Lib.hid (by have := hf.out; have := HFP.out; omega)
                clear hk0
                obtain ⟨v0, v1, v2, v3, v4⟩ := wR_facts kr2
                obtain ⟨c4, c5, c6⟩ := block_cells (n := 4) v4 rfl
                have V4 := Lib.hid v4
                have Kw2 : Ex w wr := ex_trans (by (try show Ex _ _); repeat (first | (with_reducible exact ex_refl _) | (with_reducible assumption) | (with_reducible refine ex_drewL ?_) | (with_reducible refine ex_appR ?_ _) | (with_reducible refine ex_wx ?_ _) | (with_reducible refine ex_drew ?_) | (with_reducible refine ex_alloc ?_ _))) kr2
                have hfp : k = firstP l ⟨lo, hi, op⟩ := HFF.out
                have hep : E = endP l ⟨lo, hi, op⟩ := HEE.out
                obtain ⟨u1, u2, u3⟩ := first_end l ⟨lo, hi, op⟩
                rw [← hfp, ← hep] at u1
                rw [← hep, hn] at u2
                rw [← hfp, hn] at u3
                have u4 := u3 hpos
                have hps : SlP w (some ⟨g, off + k * 2, none⟩) (pairsP l ⟨lo, hi, op⟩) := by unfold pairsP; rw [← hfp, ← hep]; exact (hs.drop _).take _
                have hpl := pairs_len l ⟨lo, hi, op⟩
                rw [← hfp, ← hep] at hpl
                have hqs := pathS_doc l ⟨lo, hi, op⟩ (by omega)
                rw [← hfp, ← hep] at hqs
                have HPa : Hid (∀ w', Ex w w' → Calls Tryd.prog 78 #[.slice (some ⟨g, off, none⟩) n c, I 0, I k, I E] w' (PostO w' (pathS l ⟨lo, hi, op⟩))) := Lib.hid fun w' kx => by
                  rw [hqs]
                  exact docpath_any n l 0 k E _ c w' hn (by omega) (by omega) hc hcm (hs.ex kx) (fun p hp => by
                    obtain ⟨i, hi⟩ := List.mem_iff_getElem?.1 hp
                    have hil := (List.getElem?_eq_some_iff.1 hi).1
                    rw [prAt_get hil] at hi
                    have h3 := right_size hr hil
                    rw [Option.some.inj hi] at h3
                    omega)
                have HSP := Lib.hid hps
                have HPL := Lib.hid hpl
                have p1 : (k : Int) ≤ E := by omega
                have p2 : (E : Int) ≤ c := by omega
                have p3 : ¬ c = k := by omega
                have p4 : decide ((0 : Int) < n) = true := decide_eq_true (by omega)
                have p5 : decide (0 < n) = true := decide_eq_true (by omega)
                clear hps hpl hqs u1 u2 u3 hfp hep v4 HU HED
                go_wp2
                refine wp_region_seq [(0, true), (1, true), (2, true), (3, true), (4, true), (5, true), (6, true), (7, true), (8, true), (9, true), (10, true), (11, false), (12, true)] (by kernel_rfl) (by kernel_rfl) (fun _ _ d _ _ h => by cases d <;> exact h) ?_
                simp only [List.map_cons, List.map_nil, nth]
                repeat (first | ((with_reducible refine wpSeq_look ?_); go_big_quiet_step (fail); (with_reducible refine wpQuiet_nil ?_)) | ((with_reducible refine wpSeq_effF ?_ ?_); (focus rfl); go_simp) | ((with_reducible refine wpSeq_eff ?_ ?_); (focus rfl); (try dsimp only); go_wp2_with (go_at_call 41; (with_reducible refine (HIN.out _).mono ?_); rintro e9 w2 ⟨rfl, X3, rfl⟩); refine mixQ_mk (by (try show Ex _ _); repeat (first | (with_reducible exact ex_refl _) | (with_reducible assumption) | (with_reducible refine ex_drewL ?_) | (with_reducible refine ex_appR ?_ _) | (with_reducible refine ex_wx ?_ _) | (with_reducible refine ex_drew ?_) | (with_reducible refine ex_alloc ?_ _))) ?_))
                refine wpSeq_nil ?_
                go_wp2_with (go_at_call 78; (with_reducible refine (HPa.out _ (by (try show Ex _ _); repeat (first | (with_reducible exact ex_refl _) | (with_reducible assumption) | (with_reducible refine ex_drewL ?_) | (with_reducible refine ex_appR ?_ _) | (with_reducible refine ex_wx ?_ _) | (with_reducible refine ex_drew ?_) | (with_reducible refine ex_alloc ?_ _)))).mono ?_); rintro e3 w3 ⟨v5, rfl, hown3, X4, rfl⟩; obtain ⟨qa, qc, rfl, y1, y2, y3, _⟩ := hown3.slg; replace hown3 := Lib.hid hown3)
                have KE := ex_wx (ex_alloc (ex_wx (ex_setCells Kw2 (b := w.heap.size + 1) (by omega) 0 [I n, I k, .slice (some ⟨g, off + k * 2, none⟩) (E - k) (c - k), .slice qa (pathS l ⟨lo, hi, op⟩).length qc]) X3) (.cells #[I n, I k, .slice (some ⟨g, off + k * 2, none⟩) (E - k) (c - k), .slice qa (pathS l ⟨lo, hi, op⟩).length qc] 65)) X4
                have HD := rp_path (b4 := w.heap.size + 1) (vs := [I n, I k, .slice (some ⟨g, off + k * 2, none⟩) (E - k) (c - k), .slice qa (pathS l ⟨lo, hi, op⟩).length qc]) (B := .cells #[I n, I k, .slice (some ⟨g, off + k * 2, none⟩) (E - k) (c - k), .slice qa (pathS l ⟨lo, hi, op⟩).length qc] 65) hown3.out
                obtain ⟨qa2, qc2, he9, _, _, _, hsl9⟩ := OwnD.slg HD
                cases he9
                exact ret_row (cs := #[I n, I k, .slice (some ⟨g, off + k * 2, none⟩) (E - k) (c - k), .slice qa (pathS l ⟨lo, hi, op⟩).length qc]) Tryd.results46 Tryd.underlying65 rfl info_span rfl (rp_cells V4.out rfl rfl (by (try show Ex _ _); repeat (first | (with_reducible exact ex_refl _) | (with_reducible assumption) | (with_reducible refine ex_drewL ?_) | (with_reducible refine ex_appR ?_ _) | (with_reducible refine ex_wx ?_ _) | (with_reducible refine ex_drew ?_) | (with_reducible refine ex_alloc ?_ _)))) rfl
                  ⟨some ⟨g, off + k * 2, none⟩, c - k, qa, qc, by rw [HPL.out, ← HFF.out], ⟨by rw [HPL.out]; omega, by omega, (fun h => by cases h), HSP.out.ex KE⟩, ⟨y1, y2, y3, hsl9⟩, KE⟩
              · have hk1 : decide ((0 : Int) < k) = true := decide_eq_true (by omega)
                have hk2 : decide (0 < k) = true := decide_eq_true (by omega)
                have hk3 : decide (k = 0) = false := decide_eq_false hk0
                obtain ⟨F, hF⟩ : ∃ F, k - 1 = F := ⟨_, rfl⟩
                have hF2 : (k : Int) - 1 = F := by omega
                have HFF : Hid (F = firstP l ⟨lo, hi, op⟩) := Lib.hid (by have := hf.out; have := HFP.out; omega)
                clear hF
                obtain ⟨v0, v1, v2, v3, v4⟩ := wR_facts kr2
                obtain ⟨c4, c5, c6⟩ := block_cells (n := 4) v4 rfl
                have V4 := Lib.hid v4
                have Kw2 : Ex w wr := ex_trans (by (try show Ex _ _); repeat (first | (with_reducible exact ex_refl _) | (with_reducible assumption) | (with_reducible refine ex_drewL ?_) | (with_reducible refine ex_appR ?_ _) | (with_reducible refine ex_wx ?_ _) | (with_reducible refine ex_drew ?_) | (with_reducible refine ex_alloc ?_ _))) kr2
                have hfp : F = firstP l ⟨lo, hi, op⟩ := HFF.out
                have hep : E = endP l ⟨lo, hi, op⟩ := HEE.out
                obtain ⟨u1, u2, u3⟩ := first_end l ⟨lo, hi, op⟩
                rw [← hfp, ← hep] at u1
                rw [← hep, hn] at u2
                rw [← hfp, hn] at u3
                have u4 := u3 hpos
                have hps : SlP w (some ⟨g, off + F * 2, none⟩) (pairsP l ⟨lo, hi, op⟩) := by unfold pairsP; rw [← hfp, ← hep]; exact (hs.drop _).take _
                have hpl := pairs_len l ⟨lo, hi, op⟩
                rw [← hfp, ← hep] at hpl
                have hqs := pathS_doc l ⟨lo, hi, op⟩ (by omega)
                rw [← hfp, ← hep] at hqs
                have HPa : Hid (∀ w', Ex w w' → Calls Tryd.prog 78 #[.slice (some ⟨g, off, none⟩) n c, I 0, I F, I E] w' (PostO w' (pathS l ⟨lo, hi, op⟩))) := Lib.hid fun w' kx => by
                  rw [hqs]
                  exact docpath_any n l 0 F E _ c w' hn (by omega) (by omega) hc hcm (hs.ex kx) (fun p hp => by
                    obtain ⟨i, hi⟩ := List.mem_iff_getElem?.1 hp
                    have hil := (List.getElem?_eq_some_iff.1 hi).1
                    rw [prAt_get hil] at hi
                    have h3 := right_size hr hil
                    rw [Option.some.inj hi] at h3
                    omega)
                have HSP := Lib.hid hps
                have HPL := Lib.hid hpl
                have p1 : (F : Int) ≤ E := by omega
                have p2 : (E : Int) ≤ c := by omega
                have p3 : ¬ c = F := by omega
                have p4 : decide ((0 : Int) < n) = true := decide_eq_true (by omega)
                have p5 : decide (0 < n) = true := decide_eq_true (by omega)
                clear hps hpl hqs u1 u2 u3 hfp hep v4 HU HED
                go_wp2
                refine wp_region_seq [(0, true), (1, true), (2, true), (3, true), (4, true), (5, true), (6, true), (7, true), (8, true), (9, true), (10, true), (11, false), (12, true)] (by kernel_rfl) (by kernel_rfl) (fun _ _ d _ _ h => by cases d <;> exact h) ?_
                simp only [List.map_cons, List.map_nil, nth]
                repeat (first | ((with_reducible refine wpSeq_look ?_); go_big_quiet_step (fail); (with_reducible refine wpQuiet_nil ?_)) | ((with_reducible refine wpSeq_effF ?_ ?_); (focus rfl); go_simp) | ((with_reducible refine wpSeq_eff ?_ ?_); (focus rfl); (try dsimp only); go_wp2_with (go_at_call 41; (with_reducible refine (HIN.out _).mono ?_); rintro e9 w2 ⟨rfl, X3, rfl⟩); refine mixQ_mk (by (try show Ex _ _); repeat (first | (with_reducible exact ex_refl _) | (with_reducible assumption) | (with_reducible refine ex_drewL ?_) | (with_reducible refine ex_appR ?_ _) | (with_reducible refine ex_wx ?_ _) | (with_reducible refine ex_drew ?_) | (with_reducible refine ex_alloc ?_ _))) ?_))
                refine wpSeq_nil ?_
                go_wp2_with (go_at_call 78; (with_reducible refine (HPa.out _ (by (try show Ex _ _); repeat (first | (with_reducible exact ex_refl _) | (with_reducible assumption) | (with_reducible refine ex_drewL ?_) | (with_reducible refine ex_appR ?_ _) | (with_reducible refine ex_wx ?_ _) | (with_reducible refine ex_drew ?_) | (with_reducible refine ex_alloc ?_ _)))).mono ?_); rintro e3 w3 ⟨v5, rfl, hown3, X4, rfl⟩; obtain ⟨qa, qc, rfl, y1, y2, y3, _⟩ := hown3.slg; replace hown3 := Lib.hid hown3)
                have KE := ex_wx (ex_alloc (ex_wx (ex_setCells Kw2 (b := w.heap.size + 1) (by omega) 0 [I n, I F, .slice (some ⟨g, off + F * 2, none⟩) (E - F) (c - F), .slice qa (pathS l ⟨lo, hi, op⟩).length qc]) X3) (.cells #[I n, I F, .slice (some ⟨g, off + F * 2, none⟩) (E - F) (c - F), .slice qa (pathS l ⟨lo, hi, op⟩).length qc] 65)) X4
                have HD := rp_path (b4 := w.heap.size + 1) (vs := [I n, I F, .slice (some ⟨g, off + F * 2, none⟩) (E - F) (c - F), .slice qa (pathS l ⟨lo, hi, op⟩).length qc]) (B := .cells #[I n, I F, .slice (some ⟨g, off + F * 2, none⟩) (E - F) (c - F), .slice qa (pathS l ⟨lo, hi, op⟩).length qc] 65) hown3.out
                obtain ⟨qa2, qc2, he9, _, _, _, hsl9⟩ := OwnD.slg HD
                cases he9
                exact ret_row (cs := #[I n, I F, .slice (some ⟨g, off + F * 2, none⟩) (E - F) (c - F), .slice qa (pathS l ⟨lo, hi, op⟩).length qc]) Tryd.results46 Tryd.underlying65 rfl info_span rfl (rp_cells V4.out rfl rfl (by (try show Ex _ _); repeat (first | (with_reducible exact ex_refl _) | (with_reducible assumption) | (with_reducible refine ex_drewL ?_) | (with_reducible refine ex_appR ?_ _) | (with_reducible refine ex_wx ?_ _) | (with_reducible refine ex_drew ?_) | (with_reducible refine ex_alloc ?_ _)))) rfl
                  ⟨some ⟨g, off + F * 2, none⟩, c - F, qa, qc, by rw [HPL.out, ← HFF.out], ⟨by rw [HPL.out]; omega, by omega, (fun h => by cases h), HSP.out.ex KE⟩, ⟨y1, y2, y3, hsl9⟩, KE⟩
            · have HK3 := Lib.hid (HKn2.out rfl)
              clear HKn2
              go_wp2
              refine wp_region_seq [(0, true), (1, true), (2, true), (3, true), (4, true), (5, true), (6, true), (7, true), (8, true), (9, true), (10, true), (11, false), (12, true)] (by kernel_rfl) (by kernel_rfl) (fun _ _ d _ _ h => by cases d <;> exact h) ?_
              simp only [List.map_cons, List.map_nil, nth]
              repeat (first | ((with_reducible refine wpSeq_look ?_); go_big_quiet_step (fail); (with_reducible refine wpQuiet_nil ?_)) | ((with_reducible refine wpSeq_effF ?_ ?_); (focus rfl); go_simp) | ((with_reducible refine wpSeq_eff ?_ ?_); (focus rfl); (try dsimp only); go_wp2_with (go_at_call 41; (with_reducible refine (HIN.out _).mono ?_); rintro e9 w2 ⟨rfl, X3, rfl⟩); refine mixQ_mk (by (try show Ex _ _); repeat (first | (with_reducible exact ex_refl _) | (with_reducible assumption) | (with_reducible refine ex_drewL ?_) | (with_reducible refine ex_appR ?_ _) | (with_reducible refine ex_wx ?_ _) | (with_reducible refine ex_drew ?_) | (with_reducible refine ex_alloc ?_ _))) ?_))
              refine wpSeq_nil ?_
              go_wp2
              refine ⟨⟨e + 1, by omega, by omega, by go_num, HK3, (by (try show Ex _ _); repeat (first | (with_reducible exact ex_refl _) | (with_reducible assumption) | (with_reducible refine ex_drewL ?_) | (with_reducible refine ex_appR ?_ _) | (with_reducible refine ex_wx ?_ _) | (with_reducible refine ex_drew ?_) | (with_reducible refine ex_alloc ?_ _)))⟩, by simp [intOf]; omega⟩
          · have f1 : decide ((e : Int) < n) = false := decide_eq_false (by omega)
            have f2 : decide (e < n) = false := decide_eq_false (by omega)
            have HEN := Lib.hid (HED.out e (by rw [← hf.out]; exact hke) hen (by rw [← hf.out]; exact HK2.out) (fun h => absurd h hlt2))
            have HEE : Hid (e = endP l ⟨lo, hi, op⟩) := Lib.hid (by have := HEN.out; omega)
            clear HEN
            by_cases hk0 : k = 0
            · have hk1 : decide ((0 : Int) < k) = false := decide_eq_false (by omega)
              have hk2 : decide (0 < k) = false := decide_eq_false (by omega)
              have hk3 : decide (k = 0) = true := decide_eq_true hk0
              have HFF : Hid (k = firstP l ⟨lo, hi, op⟩) := Lib.hid (by have := hf.out; have := HFP.out; omega)
              clear hk0
              obtain ⟨v0, v1, v2, v3, v4⟩ := wR_facts kr2
              obtain ⟨c4, c5, c6⟩ := block_cells (n := 4) v4 rfl
              have V4 := Lib.hid v4
              have Kw2 : Ex w wr := ex_trans (by (try show Ex _ _); repeat (first | (with_reducible exact ex_refl _) | (with_reducible assumption) | (with_reducible refine ex_drewL ?_) | (with_reducible refine ex_appR ?_ _) | (with_reducible refine ex_wx ?_ _) | (with_reducible refine ex_drew ?_) | (with_reducible refine ex_alloc ?_ _))) kr2
              have hfp : k = firstP l ⟨lo, hi, op⟩ := HFF.out
              have hep : e = endP l ⟨lo, hi, op⟩ := HEE.out
              obtain ⟨u1, u2, u3⟩ := first_end l ⟨lo, hi, op⟩
              rw [← hfp, ← hep] at u1
              rw [← hep, hn] at u2
              rw [← hfp, hn] at u3
              have u4 := u3 hpos
              have hps : SlP w (some ⟨g, off + k * 2, none⟩) (pairsP l ⟨lo, hi, op⟩) := by unfold pairsP; rw [← hfp, ← hep]; exact (hs.drop _).take _
              have hpl := pairs_len l ⟨lo, hi, op⟩
              rw [← hfp, ← hep] at hpl
              have hqs := pathS_doc l ⟨lo, hi, op⟩ (by omega)
              rw [← hfp, ← hep] at hqs
              have HPa : Hid (∀ w', Ex w w' → Calls Tryd.prog 78 #[.slice (some ⟨g, off, none⟩) n c, I 0, I k, I e] w' (PostO w' (pathS l ⟨lo, hi, op⟩))) := Lib.hid fun w' kx => by
                rw [hqs]
                exact docpath_any n l 0 k e _ c w' hn (by omega) (by omega) hc hcm (hs.ex kx) (fun p hp => by
                  obtain ⟨i, hi⟩ := List.mem_iff_getElem?.1 hp
                  have hil := (List.getElem?_eq_some_iff.1 hi).1
                  rw [prAt_get hil] at hi
                  have h3 := right_size hr hil
                  rw [Option.some.inj hi] at h3
                  omega)
              have HSP := Lib.hid hps
              have HPL := Lib.hid hpl
              have p1 : (k : Int) ≤ e := by omega
              have p2 : (e : Int) ≤ c := by omega
              have p3 : ¬ c = k := by omega
              have p4 : decide ((0 : Int) < n) = true := decide_eq_true (by omega)
              have p5 : decide (0 < n) = true := decide_eq_true (by omega)
              clear hps hpl hqs u1 u2 u3 hfp hep v4 HU HED
              go_wp2
              refine wp_region_seq [(0, true), (1, true), (2, true), (3, true), (4, true), (5, true), (6, true), (7, true), (8, true), (9, true), (10, true), (11, false), (12, true)] (by kernel_rfl) (by kernel_rfl) (fun _ _ d _ _ h => by cases d <;> exact h) ?_
              simp only [List.map_cons, List.map_nil, nth]
              repeat (first | ((with_reducible refine wpSeq_look ?_); go_big_quiet_step (fail); (with_reducible refine wpQuiet_nil ?_)) | ((with_reducible refine wpSeq_effF ?_ ?_); (focus rfl); go_simp) | ((with_reducible refine wpSeq_eff ?_ ?_); (focus rfl); (try dsimp only); go_wp2_with (go_at_call 41; (with_reducible refine (HIN.out _).mono ?_); rintro e9 w2 ⟨rfl, X3, rfl⟩); refine mixQ_mk (by (try show Ex _ _); repeat (first | (with_reducible exact ex_refl _) | (with_reducible assumption) | (with_reducible refine ex_drewL ?_) | (with_reducible refine ex_appR ?_ _) | (with_reducible refine ex_wx ?_ _) | (with_reducible refine ex_drew ?_) | (with_reducible refine ex_alloc ?_ _))) ?_))
              refine wpSeq_nil ?_
              go_wp2_with (go_at_call 78; (with_reducible refine (HPa.out _ (by (try show Ex _ _); repeat (first | (with_reducible exact ex_refl _) | (with_reducible assumption) | (with_reducible refine ex_drewL ?_) | (with_reducible refine ex_appR ?_ _) | (with_reducible refine ex_wx ?_ _) | (with_reducible refine ex_drew ?_) | (with_reducible refine ex_alloc ?_ _)))).mono ?_); rintro e3 w3 ⟨v5, rfl, hown3, X4, rfl⟩; obtain ⟨qa, qc, rfl, y1, y2, y3, _⟩ := hown3.slg; replace hown3 := Lib.hid hown3)
              have KE := ex_wx (ex_alloc (ex_setCells Kw2 (b := w.heap.size + 1) (by omega) 0 [I n, I k, .slice (some ⟨g, off + k * 2, none⟩) (e - k) (c - k), .slice qa (pathS l ⟨lo, hi, op⟩).length qc]) (.cells #[I n, I k, .slice (some ⟨g, off + k * 2, none⟩) (e - k) (c - k), .slice qa (pathS l ⟨lo, hi, op⟩).length qc] 65)) X4
              have HD := rp_path2 (b4 := w.heap.size + 1) (vs := [I n, I k, .slice (some ⟨g, off + k * 2, none⟩) (e - k) (c - k), .slice qa (pathS l ⟨lo, hi, op⟩).length qc]) (B := .cells #[I n, I k, .slice (some ⟨g, off + k * 2, none⟩) (e - k) (c - k), .slice qa (pathS l ⟨lo, hi, op⟩).length qc] 65) hown3.out
              obtain ⟨qa2, qc2, he9, _, _, _, hsl9⟩ := OwnD.slg HD
              cases he9
              exact ret_row (cs := #[I n, I k, .slice (some ⟨g, off + k * 2, none⟩) (e - k) (c - k), .slice qa (pathS l ⟨lo, hi, op⟩).length qc]) Tryd.results46 Tryd.underlying65 rfl info_span rfl (rp_cells V4.out rfl rfl (by (try show Ex _ _); repeat (first | (with_reducible exact ex_refl _) | (with_reducible assumption) | (with_reducible refine ex_drewL ?_) | (with_reducible refine ex_appR ?_ _) | (with_reducible refine ex_wx ?_ _) | (with_reducible refine ex_drew ?_) | (with_reducible refine ex_alloc ?_ _)))) rfl
                ⟨some ⟨g, off + k * 2, none⟩, c - k, qa, qc, by rw [HPL.out, ← HFF.out], ⟨by rw [HPL.out]; omega, by omega, (fun h => by cases h), HSP.out.ex KE⟩, ⟨y1, y2, y3, hsl9⟩, KE⟩
            · have hk1 : decide ((0 : Int) < k) = true := decide_eq_true (by omega)
              have hk2 : decide (0 < k) = true := decide_eq_true (by omega)
              have hk3 : decide (k = 0) = false := decide_eq_false hk0
              obtain ⟨F, hF⟩ : ∃ F, k - 1 = F := ⟨_, rfl⟩
              have hF2 : (k : Int) - 1 = F := by omega
              have HFF : Hid (F = firstP l ⟨lo, hi, op⟩) := Lib.hid (by have := hf.out; have := HFP.out; omega)
              clear hF
              obtain ⟨v0, v1, v2, v3, v4⟩ := wR_facts kr2
              obtain ⟨c4, c5, c6⟩ := block_cells (n := 4) v4 rfl
              have V4 := Lib.hid v4
              have Kw2 : Ex w wr := ex_trans (by (try show Ex _ _); repeat (first | (with_reducible exact ex_refl _) | (with_reducible assumption) | (with_reducible refine ex_drewL ?_) | (with_reducible refine ex_appR ?_ _) | (with_reducible refine ex_wx ?_ _) | (with_reducible refine ex_drew ?_) | (with_reducible refine ex_alloc ?_ _))) kr2
              have hfp : F = firstP l ⟨lo, hi, op⟩ := HFF.out
              have hep : e = endP l ⟨lo, hi, op⟩ := HEE.out
              obtain ⟨u1, u2, u3⟩ := first_end l ⟨lo, hi, op⟩
              rw [← hfp, ← hep] at u1
              rw [← hep, hn] at u2
              rw [← hfp, hn] at u3
              have u4 := u3 hpos
              have hps : SlP w (some ⟨g, off + F * 2, none⟩) (pairsP l ⟨lo, hi, op⟩) := by unfold pairsP; rw [← hfp, ← hep]; exact (hs.drop _).take _
              have hpl := pairs_len l ⟨lo, hi, op⟩
              rw [← hfp, ← hep] at hpl
              have hqs := pathS_doc l ⟨lo, hi, op⟩ (by omega)
              rw [← hfp, ← hep] at hqs
              have HPa : Hid (∀ w', Ex w w' → Calls Tryd.prog 78 #[.slice (some ⟨g, off, none⟩) n c, I 0, I F, I e] w' (PostO w' (pathS l ⟨lo, hi, op⟩))) := Lib.hid fun w' kx => by
                rw [hqs]
                exact docpath_any n l 0 F e _ c w' hn (by omega) (by omega) hc hcm (hs.ex kx) (fun p hp => by
                  obtain ⟨i, hi⟩ := List.mem_iff_getElem?.1 hp
                  have hil := (List.getElem?_eq_some_iff.1 hi).1
                  rw [prAt_get hil] at hi
                  have h3 := right_size hr hil
                  rw [Option.some.inj hi] at h3
                  omega)
              have HSP := Lib.hid hps
              have HPL := Lib.hid hpl
              have p1 : (F : Int) ≤ e := by omega
              have p2 : (e : Int) ≤ c := by omega
              have p3 : ¬ c = F := by omega
              have p4 : decide ((0 : Int) < n) = true := decide_eq_true (by omega)
              have p5 : decide (0 < n) = true := decide_eq_true (by omega)
              clear hps hpl hqs u1 u2 u3 hfp hep v4 HU HED
              go_wp2
              refine wp_region_seq [(0, true), (1, true), (2, true), (3, true), (4, true), (5, true), (6, true), (7, true), (8, true), (9, true), (10, true), (11, false), (12, true)] (by kernel_rfl) (by kernel_rfl) (fun _ _ d _ _ h => by cases d <;> exact h) ?_
              simp only [List.map_cons, List.map_nil, nth]
              repeat (first | ((with_reducible refine wpSeq_look ?_); go_big_quiet_step (fail); (with_reducible refine wpQuiet_nil ?_)) | ((with_reducible refine wpSeq_effF ?_ ?_); (focus rfl); go_simp) | ((with_reducible refine wpSeq_eff ?_ ?_); (focus rfl); (try dsimp only); go_wp2_with (go_at_call 41; (with_reducible refine (HIN.out _).mono ?_); rintro e9 w2 ⟨rfl, X3, rfl⟩); refine mixQ_mk (by (try show Ex _ _); repeat (first | (with_reducible exact ex_refl _) | (with_reducible assumption) | (with_reducible refine ex_drewL ?_) | (with_reducible refine ex_appR ?_ _) | (with_reducible refine ex_wx ?_ _) | (with_reducible refine ex_drew ?_) | (with_reducible refine ex_alloc ?_ _))) ?_))
              refine wpSeq_nil ?_
              go_wp2_with (go_at_call 78; (with_reducible refine (HPa.out _ (by (try show Ex _ _); repeat (first | (with_reducible exact ex_refl _) | (with_reducible assumption) | (with_reducible refine ex_drewL ?_) | (with_reducible refine ex_appR ?_ _) | (with_reducible refine ex_wx ?_ _) | (with_reducible refine ex_drew ?_) | (with_reducible refine ex_alloc ?_ _)))).mono ?_); rintro e3 w3 ⟨v5, rfl, hown3, X4, rfl⟩; obtain ⟨qa, qc, rfl, y1, y2, y3, _⟩ := hown3.slg; replace hown3 := Lib.hid hown3)
              have KE := ex_wx (ex_alloc (ex_setCells Kw2 (b := w.heap.size + 1) (by omega) 0 [I n, I F, .slice (some ⟨g, off + F * 2, none⟩) (e - F) (c - F), .slice qa (pathS l ⟨lo, hi, op⟩).length qc]) (.cells #[I n, I F, .slice (some ⟨g, off + F * 2, none⟩) (e - F) (c - F), .slice qa (pathS l ⟨lo, hi, op⟩).length qc] 65)) X4
              have HD := rp_path2 (b4 := w.heap.size + 1) (vs := [I n, I F, .slice (some ⟨g, off + F * 2, none⟩) (e - F) (c - F), .slice qa (pathS l ⟨lo, hi, op⟩).length qc]) (B := .cells #[I n, I F, .slice (some ⟨g, off + F * 2, none⟩) (e - F) (c - F), .slice qa (pathS l ⟨lo, hi, op⟩).length qc] 65) hown3.out
              obtain ⟨qa2, qc2, he9, _, _, _, hsl9⟩ := OwnD.slg HD
              cases he9
              exact ret_row (cs := #[I n, I F, .slice (some ⟨g, off + F * 2, none⟩) (e - F) (c - F), .slice qa (pathS l ⟨lo, hi, op⟩).length qc]) Tryd.results46 Tryd.underlying65 rfl info_span rfl (rp_cells V4.out rfl rfl (by (try show Ex _ _); repeat (first | (with_reducible exact ex_refl _) | (with_reducible assumption) | (with_reducible refine ex_drewL ?_) | (with_reducible refine ex_appR ?_ _) | (with_reducible refine ex_wx ?_ _) | (with_reducible refine ex_drew ?_) | (with_reducible refine ex_alloc ?_ _)))) rfl
                ⟨some ⟨g, off + F * 2, none⟩, c - F, qa, qc, by rw [HPL.out, ← HFF.out], ⟨by rw [HPL.out]; omega, by omega, (fun h => by cases h), HSP.out.ex KE⟩, ⟨y1, y2, y3, hsl9⟩, KE⟩
      · have HK3 := Lib.hid (HKn.out rfl)
        clear HKn HX
        go_wp2
        refine wp_region_seq [(0, true), (1, true), (2, true), (3, true), (4, true), (5, true), (6, true), (7, true), (8, true), (9, true), (10, true), (11, true), (12, true), (13, true)] (by kernel_rfl) (by kernel_rfl) (fun _ _ d _ _ h => by cases d <;> exact h) ?_
        simp only [List.map_cons, List.map_nil, nth]
        repeat (first | ((with_reducible refine wpSeq_look ?_); go_big_quiet_step (fail); (with_reducible refine wpQuiet_nil ?_)) | ((with_reducible refine wpSeq_effF ?_ ?_); (focus rfl); go_simp) | ((with_reducible refine wpSeq_eff ?_ ?_); (focus rfl); (try dsimp only); go_wp2_with (fail); refine mixQ_mk (by (try show Ex _ _); repeat (first | (with_reducible exact ex_refl _) | (with_reducible assumption) | (with_reducible refine ex_drewL ?_) | (with_reducible refine ex_appR ?_ _) | (with_reducible refine ex_wx ?_ _) | (with_reducible refine ex_drew ?_) | (with_reducible refine ex_alloc ?_ _))) ?_))
        refine wpSeq_nil ?_
        go_wp2
        refine ⟨⟨k + 1, by omega, by go_num, HK3, (by (try show Ex _ _); repeat (first | (with_reducible exact ex_refl _) | (with_reducible assumption) | (with_reducible refine ex_drewL ?_) | (with_reducible refine ex_appR ?_ _) | (with_reducible refine ex_wx ?_ _) | (with_reducible refine ex_drew ?_) | (with_reducible refine ex_alloc ?_ _)))⟩, by simp [intOf]; omega⟩
    · have d1 : decide ((k : Int) < n) = false := decide_eq_false (by omega)
      have d2 : decide (k < n) = false := decide_eq_false (by omega)
      have hf := Lib.hid (HU.out k hk HK.out (fun h => absurd h hlt))
      obtain ⟨g, off, rfl, _, _⟩ := hs.pos (by omega)
      go_wp2
      refine wp_region_seq [(0, true), (1, true), (2, true), (3, true), (4, true), (5, true), (6, true), (7, true), (8, true), (9, true), (10, true), (11, true), (12, true), (13, true)] (by kernel_rfl) (by kernel_rfl) (fun _ _ d _ _ h => by cases d <;> exact h) ?_
      simp only [List.map_cons, List.map_nil, nth]
      repeat (first | ((with_reducible refine wpSeq_look ?_); go_big_quiet_step (fail); (with_reducible refine wpQuiet_nil ?_)) | ((with_reducible refine wpSeq_effF ?_ ?_); (focus rfl); go_simp) | ((with_reducible refine wpSeq_eff ?_ ?_); (focus rfl); (try dsimp only); go_wp2_with (fail); refine mixQ_mk (by (try show Ex _ _); repeat (first | (with_reducible exact ex_refl _) | (with_reducible assumption) | (with_reducible refine ex_drewL ?_) | (with_reducible refine ex_appR ?_ _) | (with_reducible refine ex_wx ?_ _) | (with_reducible refine ex_drew ?_) | (with_reducible refine ex_alloc ?_ _))) ?_))
      refine wpSeq_nil ?_
      go_wp2
      clear s0 s1 s2 s3 s4 d1 d2
      go_loopw [6] (fun i wr => ∃ e : Nat, k ≤ e ∧ e ≤ n ∧ i = I e ∧ Hid (∀ j, k ≤ j → j < e → inP ⟨lo, hi, op⟩ (prAt l j).1 = true) ∧ Ex (wR w lo hi op) wr) (fun i _ => n - (intOf i).toNat)
      case atStart => exact ⟨k, by omega, by omega, rfl, Lib.hid (fun j hj hj2 => absurd hj2 (by omega)), (by (try show Ex _ _); repeat (first | (with_reducible exact ex_refl _) | (with_reducible assumption) | (with_reducible refine ex_drewL ?_) | (with_reducible refine ex_appR ?_ _) | (with_reducible refine ex_wx ?_ _) | (with_reducible refine ex_drew ?_) | (with_reducible refine ex_alloc ?_ _)))⟩
      case round =>
        obtain ⟨e, hke, hen, rfl, HK2, kr2⟩ := hrel
        by_cases hlt2 : e < n
        · exact absurd hlt2 (by omega)
        · have f1 : decide ((e : Int) < n) = false := decide_eq_false (by omega)
          have f2 : decide (e < n) = false := decide_eq_false (by omega)
          have HEN := Lib.hid (HED.out e (by rw [← hf.out]; exact hke) hen (by rw [← hf.out]; exact HK2.out) (fun h => absurd h hlt2))
          have HEE : Hid (e = endP l ⟨lo, hi, op⟩) := Lib.hid (by have := HEN.out; omega)
          clear HEN
          by_cases hk0 : k = 0
          · exact absurd hk0 (by omega)
          · have hk1 : decide ((0 : Int) < k) = true := decide_eq_true (by omega)
            have hk2 : decide (0 < k) = true := decide_eq_true (by omega)
            have hk3 : decide (k = 0) = false := decide_eq_false hk0
            obtain ⟨F, hF⟩ : ∃ F, k - 1 = F := ⟨_, rfl⟩
            have hF2 : (k : Int) - 1 = F := by omega
            have HFF : Hid (F = firstP l ⟨lo, hi, op⟩) := Lib.hid (by have := hf.out; have := HFP.out; omega)
            clear hF
            obtain ⟨v0, v1, v2, v3, v4⟩ := wR_facts kr2
            obtain ⟨c4, c5, c6⟩ := block_cells (n := 4) v4 rfl
            have V4 := Lib.hid v4
            have Kw2 : Ex w wr := ex_trans (by (try show Ex _ _); repeat (first | (with_reducible exact ex_refl _) | (with_reducible assumption) | (with_reducible refine ex_drewL ?_) | (with_reducible refine ex_appR ?_ _) | (with_reducible refine ex_wx ?_ _) | (with_reducible refine ex_drew ?_) | (with_reducible refine ex_alloc ?_ _))) kr2
            have hfp : F = firstP l ⟨lo, hi, op⟩ := HFF.out
            have hep : e = endP l ⟨lo, hi, op⟩ := HEE.out
            obtain ⟨u1, u2, u3⟩ := first_end l ⟨lo, hi, op⟩
            rw [← hfp, ← hep] at u1
            rw [← hep, hn] at u2
            rw [← hfp, hn] at u3
            have u4 := u3 hpos
            have hps : SlP w (some ⟨g, off + F * 2, none⟩) (pairsP l ⟨lo, hi, op⟩) := by unfold pairsP; rw [← hfp, ← hep]; exact (hs.drop _).take _
            have hpl := pairs_len l ⟨lo, hi, op⟩
            rw [← hfp, ← hep] at hpl
            have hqs := pathS_doc l ⟨lo, hi, op⟩ (by omega)
            rw [← hfp, ← hep] at hqs
            have HPa : Hid (∀ w', Ex w w' → Calls Tryd.prog 78 #[.slice (some ⟨g, off, none⟩) n c, I 0, I F, I e] w' (PostO w' (pathS l ⟨lo, hi, op⟩))) := Lib.hid fun w' kx => by
              rw [hqs]
              exact docpath_any n l 0 F e _ c w' hn (by omega) (by omega) hc hcm (hs.ex kx) (fun p hp => by
                obtain ⟨i, hi⟩ := List.mem_iff_getElem?.1 hp
                have hil := (List.getElem?_eq_some_iff.1 hi).1
                rw [prAt_get hil] at hi
                have h3 := right_size hr hil
                rw [Option.some.inj hi] at h3
                omega)
            have HSP := Lib.hid hps
            have HPL := Lib.hid hpl
            have p1 : (F : Int) ≤ e := by omega
            have p2 : (e : Int) ≤ c := by omega
            have p3 : ¬ c = F := by omega
            have p4 : decide ((0 : Int) < n) = true := decide_eq_true (by omega)
            have p5 : decide (0 < n) = true := decide_eq_true (by omega)
            clear hps hpl hqs u1 u2 u3 hfp hep v4 HU HED
            go_wp2
            refine wp_region_seq [(0, true), (1, true), (2, true), (3, true), (4, true), (5, true), (6, true), (7, true), (8, true), (9, true), (10, true), (11, false), (12, true)] (by kernel_rfl) (by kernel_rfl) (fun _ _ d _ _ h => by cases d <;> exact h) ?_
            simp only [List.map_cons, List.map_nil, nth]
            repeat (first | ((with_reducible refine wpSeq_look ?_); go_big_quiet_step (fail); (with_reducible refine wpQuiet_nil ?_)) | ((with_reducible refine wpSeq_effF ?_ ?_); (focus rfl); go_simp) | ((with_reducible refine wpSeq_eff ?_ ?_); (focus rfl); (try dsimp only); go_wp2_with (go_at_call 41; (with_reducible refine (HIN.out _).mono ?_); rintro e9 w2 ⟨rfl, X3, rfl⟩); refine mixQ_mk (by (try show Ex _ _); repeat (first | (with_reducible exact ex_refl _) | (with_reducible assumption) | (with_reducible refine ex_drewL ?_) | (with_reducible refine ex_appR ?_ _) | (with_reducible refine ex_wx ?_ _) | (with_reducible refine ex_drew ?_) | (with_reducible refine ex_alloc ?_ _))) ?_))
            refine wpSeq_nil ?_
            go_wp2_with (go_at_call 78; (with_reducible refine (HPa.out _ (by (try show Ex _ _); repeat (first | (with_reducible exact ex_refl _) | (with_reducible assumption) | (with_reducible refine ex_drewL ?_) | (with_reducible refine ex_appR ?_ _) | (with_reducible refine ex_wx ?_ _) | (with_reducible refine ex_drew ?_) | (with_reducible refine ex_alloc ?_ _)))).mono ?_); rintro e3 w3 ⟨v5, rfl, hown3, X4, rfl⟩; obtain ⟨qa, qc, rfl, y1, y2, y3, _⟩ := hown3.slg; replace hown3 := Lib.hid hown3)
            have KE := ex_wx (ex_alloc (ex_setCells Kw2 (b := w.heap.size + 1) (by omega) 0 [I n, I F, .slice (some ⟨g, off + F * 2, none⟩) (e - F) (c - F), .slice qa (pathS l ⟨lo, hi, op⟩).length qc]) (.cells #[I n, I F, .slice (some ⟨g, off + F * 2, none⟩) (e - F) (c - F), .slice qa (pathS l ⟨lo, hi, op⟩).length qc] 65)) X4
            have HD := rp_path2 (b4 := w.heap.size + 1) (vs := [I n, I F, .slice (some ⟨g, off + F * 2, none⟩) (e - F) (c - F), .slice qa (pathS l ⟨lo, hi, op⟩).length qc]) (B := .cells #[I n, I F, .slice (some ⟨g, off + F * 2, none⟩) (e - F) (c - F), .slice qa (pathS l ⟨lo, hi, op⟩).length qc] 65) hown3.out
            obtain ⟨qa2, qc2, he9, _, _, _, hsl9⟩ := OwnD.slg HD
            cases he9
            exact ret_row (cs := #[I n, I F, .slice (some ⟨g, off + F * 2, none⟩) (e - F) (c - F), .slice qa (pathS l ⟨lo, hi, op⟩).length qc]) Tryd.results46 Tryd.underlying65 rfl info_span rfl (rp_cells V4.out rfl rfl (by (try show Ex _ _); repeat (first | (with_reducible exact ex_refl _) | (with_reducible assumption) | (with_reducible refine ex_drewL ?_) | (with_reducible refine ex_appR ?_ _) | (with_reducible refine ex_wx ?_ _) | (with_reducible refine ex_drew ?_) | (with_reducible refine ex_alloc ?_ _)))) rfl
              ⟨some ⟨g, off + F * 2, none⟩, c - F, qa, qc, by rw [HPL.out, ← HFF.out], ⟨by rw [HPL.out]; omega, by omega, (fun h => by cases h), HSP.out.ex KE⟩, ⟨y1, y2, y3, hsl9⟩, KE⟩
end Go.Proofs.YtbobamifpjlmiaaDoor
