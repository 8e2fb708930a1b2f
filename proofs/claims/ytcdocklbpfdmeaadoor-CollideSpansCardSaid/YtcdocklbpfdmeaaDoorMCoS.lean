import Derived.Test.YtcdocklbpfdmeaaDoorMLittle
import Derived.BigRegion

/- The plain law of claims, growths and spans by any hash (checked stand-alone; not built in its seat yet). -/
set_option linter.unusedSimpArgs false
set_option linter.unusedVariables false
set_option linter.unnecessarySimpa false
namespace Go.Proofs.YtcdocklbpfdmeaaDoor
/-! ### Roots, claims and growths by any hash -/
def twoL (a b : Dg) : List UInt8 := 1 :: (bytesD a ++ bytesD b)
abbrev Cl := Option (List UInt8 × List UInt8)
section
variable (S : List UInt8 → Dg)
def overC (z : Dg) (l : List Dg) : Dg :=
  if h : l.length < 2 then l.headD z else
    have h1 := split_lt (n := l.length) (by omega)
    have h2 := split_pos l.length
    S (twoL (overC z (l.take (splitN l.length))) (overC z (l.drop (splitN l.length))))
termination_by l.length
decreasing_by
  · rw [List.length_take]; omega
  · rw [List.length_drop]; omega
variable {S}
theorem overC_nil (z : Dg) : overC S z [] = z := by rw [overC]; simp
theorem overC_one (z x : Dg) : overC S z [x] = x := by rw [overC]; simp
theorem overC_two {z : Dg} {l : List Dg} (h : 2 ≤ l.length) : overC S z l = S (twoL (overC S z (l.take (splitN l.length))) (overC S z (l.drop (splitN l.length)))) := by
  rw [overC, dif_neg (by omega)]
variable (S)
/-- The root of leaves. -/
def rootC (l : List (List UInt8)) : Dg := overC S (S []) (l.map fun b => S (0 :: b))
variable {S}
theorem rootC_one (b : List UInt8) : rootC S [b] = S (0 :: b) := overC_one _ _
theorem rootC_two {l : List (List UInt8)} (h : 2 ≤ l.length) : rootC S l = S (twoL (rootC S (l.take (splitN l.length))) (rootC S (l.drop (splitN l.length)))) := by
  unfold rootC
  rw [overC_two (by rw [List.length_map]; exact h), List.length_map, List.map_take, List.map_drop]
variable (S)
def putC (claimed is : List UInt8) (c : Cl) : Dg × Cl := (S claimed, if c = none ∧ claimed ≠ is ∧ S claimed = S is then some (claimed, is) else c)
variable {S}
variable (S)
/-- What is climbed to by a claim; none: it is no proof. -/
def climbC (l : List (List UInt8)) (i : Nat) (b : List UInt8) (path : List Dg) (c : Cl) : Option (Dg × Cl) :=
  if h : l.length < 2 then (if path = [] then some (putC S (0 :: b) (0 :: l.headD []) c) else none) else
    have h1 := split_lt (n := l.length) (by omega)
    have h2 := split_pos l.length
    match path.getLast? with
    | none => none
    | some last =>
      let is := twoL (rootC S (l.take (splitN l.length))) (rootC S (l.drop (splitN l.length)))
      if i < splitN l.length then (climbC (l.take (splitN l.length)) i b path.dropLast c).map fun x => putC S (twoL x.1 last) is x.2
      else (climbC (l.drop (splitN l.length)) (i - splitN l.length) b path.dropLast c).map fun x => putC S (twoL last x.1) is x.2
termination_by l.length
decreasing_by
  · rw [List.length_take]; omega
  · rw [List.length_drop]; omega
variable {S}
theorem climbC_one {l : List (List UInt8)} (h : l.length < 2) (i : Nat) (b : List UInt8) (path : List Dg) (c : Cl) : climbC S l i b path c = if path = [] then some (putC S (0 :: b) (0 :: l.headD []) c) else none := by
  rw [climbC, dif_pos h]
theorem climbC_nil {l : List (List UInt8)} (h : 2 ≤ l.length) (i : Nat) (b : List UInt8) (c : Cl) : climbC S l i b [] c = none := by
  rw [climbC, dif_neg (by omega)]; rfl
theorem climbC_lo {l : List (List UInt8)} (h : 2 ≤ l.length) {i : Nat} (hi : i < splitN l.length) (b : List UInt8) (rest : List Dg) (last : Dg) (c : Cl) :
    climbC S l i b (rest ++ [last]) c = (climbC S (l.take (splitN l.length)) i b rest c).map fun x => putC S (twoL x.1 last) (twoL (rootC S (l.take (splitN l.length))) (rootC S (l.drop (splitN l.length)))) x.2 := by
  rw [climbC, dif_neg (by omega)]
  simp [hi]
theorem climbC_hi {l : List (List UInt8)} (h : 2 ≤ l.length) {i : Nat} (hi : ¬ i < splitN l.length) (b : List UInt8) (rest : List Dg) (last : Dg) (c : Cl) :
    climbC S l i b (rest ++ [last]) c = (climbC S (l.drop (splitN l.length)) (i - splitN l.length) b rest c).map fun x => putC S (twoL last x.1) (twoL (rootC S (l.take (splitN l.length))) (rootC S (l.drop (splitN l.length)))) x.2 := by
  rw [climbC, dif_neg (by omega)]
  simp [hi]
theorem snoc_cases (p : List Dg) : p = [] ∨ ∃ r x, p = r ++ [x] := by
  rcases List.eq_nil_or_concat p with h | ⟨r, x, h⟩
  · exact Or.inl h
  · exact Or.inr ⟨r, x, by rw [h]; simp⟩
variable (S)
variable {S}
end
/-! ### Spans by any hash -/
section
variable {α : Type} (S : List UInt8 → Dg) (z : Dg) (cell : α → List UInt8)
/-- The top of pairs. -/
def topC (l : List α) : Dg := overC S z (l.map fun p => S (cell p))
variable {S z cell}
theorem topC_one (p : α) : topC S z cell [p] = S (cell p) := overC_one _ _
theorem topC_two {l : List α} (h : 2 ≤ l.length) : topC S z cell l = S (twoL (topC S z cell (l.take (splitN l.length))) (topC S z cell (l.drop (splitN l.length)))) := by
  unfold topC
  rw [overC_two (by rw [List.length_map]; exact h), List.length_map, List.map_take, List.map_drop]
variable (S z cell)
/-- What is put, where there is an honest one beside it. -/
def putH (claimed : List UInt8) (is : Option (List UInt8)) (c : Cl) : Dg × Cl := match is with
  | none => (S claimed, c)
  | some b => putC S claimed b c
def popD : List Dg → Option (Dg × List Dg)
  | [] => none
  | x :: r => some (x, r)
/-- The top that a span says of n pairs from a place on; the path and the clash behind it; none: it is no proof. -/
def spanC (first : Nat) (pairs : List α) (a n : Nat) (path : List Dg) (l : List α) (c : Cl) : Option (Dg × List Dg × Cl) :=
  if a + n ≤ first ∨ first + pairs.length ≤ a then (popD path).map fun q => (q.1, q.2, c)
  else if h : n < 2 then (pairs[a - first]?).map fun p => ((putH S (cell p) (l.head?.map cell) c).1, path, (putH S (cell p) (l.head?.map cell) c).2)
  else
    have h1 := split_lt (n := n) (by omega)
    have h2 := split_pos n
    (spanC first pairs a (splitN n) path (l.take (splitN n)) c).bind fun x =>
      (spanC first pairs (a + splitN n) (n - splitN n) x.2.1 (l.drop (splitN n)) x.2.2).map fun y =>
        let r := putH S (twoL x.1 y.1) (if l = [] then none else some (twoL (topC S z cell (l.take (splitN n))) (topC S z cell (l.drop (splitN n))))) y.2.2
        (r.1, y.2.1, r.2)
termination_by n
decreasing_by
  · omega
  · omega
variable {S z cell}
theorem spanC_out {first : Nat} {pairs : List α} {a n : Nat} (h : a + n ≤ first ∨ first + pairs.length ≤ a) (path : List Dg) (l : List α) (c : Cl) : spanC S z cell first pairs a n path l c = (popD path).map fun q => (q.1, q.2, c) := by
  rw [spanC, if_pos h]
theorem spanC_one {first : Nat} {pairs : List α} {a n : Nat} (h : ¬ (a + n ≤ first ∨ first + pairs.length ≤ a)) (hn : n < 2) (path : List Dg) (l : List α) (c : Cl) : spanC S z cell first pairs a n path l c = (pairs[a - first]?).map fun p => ((putH S (cell p) (l.head?.map cell) c).1, path, (putH S (cell p) (l.head?.map cell) c).2) := by
  rw [spanC, if_neg h, dif_pos hn]
theorem spanC_two {first : Nat} {pairs : List α} {a n : Nat} (h : ¬ (a + n ≤ first ∨ first + pairs.length ≤ a)) (hn : 2 ≤ n) (path : List Dg) (l : List α) (c : Cl) : spanC S z cell first pairs a n path l c =
    (spanC S z cell first pairs a (splitN n) path (l.take (splitN n)) c).bind fun x =>
      (spanC S z cell first pairs (a + splitN n) (n - splitN n) x.2.1 (l.drop (splitN n)) x.2.2).map fun y =>
        ((putH S (twoL x.1 y.1) (if l = [] then none else some (twoL (topC S z cell (l.take (splitN n))) (topC S z cell (l.drop (splitN n))))) y.2.2).1, y.2.1, (putH S (twoL x.1 y.1) (if l = [] then none else some (twoL (topC S z cell (l.take (splitN n))) (topC S z cell (l.drop (splitN n))))) y.2.2).2) := by
  rw [spanC, if_neg h, dif_neg (by omega)]
end
end Go.Proofs.YtcdocklbpfdmeaaDoor

/- Digests of a width; by the whole width claims and growths are History's (checked stand-alone). -/
set_option linter.unusedSimpArgs false
set_option linter.unusedVariables false
set_option linter.unnecessarySimpa false
namespace Go.Proofs.YtcdocklbpfdmeaaDoor
/-- The first s bits of a byte. -/
def lowB (s : Nat) (b : UInt8) : UInt8 := if s = 0 then 0 else if s < 8 then b &&& (255 <<< UInt8.ofNat (8 - s)) else b
def widD (n : Nat) (d : Dg) : Dg := ofF fun i => lowB (n - 8 * i) (dF d i)
theorem widD_full (d : Dg) {n : Nat} (h : 256 ≤ n) : widD n d = d := dF_inj fun i hi => by
  unfold widD
  rw [dF_ofF _ _ hi]
  unfold lowB
  rw [if_neg (by omega), if_neg (by omega)]
def sumW (n : Nat) (b : List UInt8) : Dg := widD n (sumD b)
theorem sumW_full {n : Nat} (h : 256 ≤ n) : sumW n = sumD := funext fun b => widD_full _ h
/-- One bit made nought, as the document does it. -/
def clr1 (b : UInt8) (k : Nat) : UInt8 := if b &&& (128 >>> UInt8.ofNat k) ≠ 0 then b - (128 >>> UInt8.ofNat k) else b
/-- The bits from s to e made nought. -/
def clrR (s e : Nat) (b : UInt8) : UInt8 := (List.range (min e 8)).foldl (fun b k => if s ≤ k then clr1 b k else b) b
theorem clrR_none {s e : Nat} (b : UInt8) (h : min e 8 ≤ s) : clrR s e b = b := by
  unfold clrR
  have : ∀ (l : List Nat) (b : UInt8), (∀ k ∈ l, k < s) → l.foldl (fun b k => if s ≤ k then clr1 b k else b) b = b := by
    intro l
    induction l with
    | nil => intro b _; rfl
    | cons k l ih =>
      intro b hl
      rw [List.foldl_cons, if_neg (by have := hl k List.mem_cons_self; omega)]
      exact ih b fun k hk => hl k (List.mem_cons_of_mem _ hk)
  exact this _ b fun k hk => by have := List.mem_range.1 hk; omega
theorem clrR_succ {s k : Nat} (b : UInt8) (h : s ≤ k) (hk : k < 8) : clrR s (k + 1) b = clr1 (clrR s k b) k := by
  unfold clrR
  rw [Nat.min_eq_left (by omega), Nat.min_eq_left (by omega), List.range_succ, List.foldl_append]
  simp [h]
theorem clr_low : ∀ (s : Fin 8) (b : Fin 256), clrR s.val 8 (UInt8.ofNat b.val) = lowB s.val (UInt8.ofNat b.val) := by decide +kernel
theorem clrR_low (s : Nat) (b : UInt8) : clrR s 8 b = lowB s b := by
  by_cases h : s < 8
  · have := clr_low ⟨s, h⟩ ⟨b.toNat, b.toNat_lt⟩
    simpa using this
  · rw [clrR_none b (by omega)]
    unfold lowB
    rw [if_neg (by omega), if_neg h]
/-- A digest where the document has made nought the bits from w to i. -/
def midD (w i : Nat) (d : Dg) : Nat → UInt8 := fun j => clrR (w - 8 * j) (i - 8 * j) (dF d j)
theorem mid_start (w : Nat) (d : Dg) (j : Nat) : midD w w d j = dF d j := by
  unfold midD
  rw [clrR_none _ (by omega)]
theorem mid_end (w : Nat) (d : Dg) {j : Nat} (hj : j < 32) : midD w 256 d j = dF (widD w d) j := by
  unfold midD widD
  rw [dF_ofF _ _ hj, ← clrR_low]
  unfold clrR
  rw [show min (256 - 8 * j) 8 = min 8 8 by omega]
theorem mid_step {w i : Nat} (d : Dg) (h : w ≤ i) (j : Nat) : midD w (i + 1) d j = if j = i / 8 then clr1 (midD w i d j) (i % 8) else midD w i d j := by
  unfold midD
  by_cases hj : j = i / 8
  · rw [if_pos hj]
    have e1 : i + 1 - 8 * j = i % 8 + 1 := by omega
    have e2 : i - 8 * j = i % 8 := by omega
    rw [e1, e2]
    exact clrR_succ _ (by omega) (by omega)
  · rw [if_neg hj]
    unfold clrR
    rw [show min (i + 1 - 8 * j) 8 = min (i - 8 * j) 8 by omega]
/-! ### By the whole width -/
end Go.Proofs.YtcdocklbpfdmeaaDoor

/- Block of the program: what it does. -/
set_option linter.unusedSimpArgs false
set_option linter.unusedVariables false
set_option maxRecDepth 20000
namespace Go.Proofs.YtcdocklbpfdmeaaDoor
open Go.RowKit

/-- The variables of Block. -/
abbrev blkW (w : World) (h : Nat → UInt32) (b : Nat → UInt8) (v m : Nat → UInt32) : World :=
  ((((w.alloc (.cells (rowU 8 h) 158)).alloc (.cells (rowB 64 b) 160)).alloc (.cells (rowU 8 fun _ => 0) 158)).alloc (.cells (rowU 16 v) 184)).alloc (.cells (rowU 16 m) 184)

set_option maxHeartbeats 2000000 in
theorem block_any (H : Nat → UInt32) (b : Nat → UInt8) (t : UInt64) (last : Bool) (w : World) (g0 : cellsN w 0 0 8 = some (rowU 8 startF)) (g1 : cellsN w 1 0 160 = some (rowI 160 ordersF)) (g2 : cellsN w 2 0 32 = some (rowI 32 foursF)) (z0 : 0 < w.heap.size) (z1 : 1 < w.heap.size) (z2 : 2 < w.heap.size) :
    Calls Tryd.prog 122 #[.agg (rowU 8 H), .agg (rowB 64 b), L t, .bool last] w (Post w (.agg (rowU 8 (blockF H b t last)))) := by
  go_enter Tryd.func122, Tryd.ntmps122
  go_wp2
  go_loopw [20] (fun i wr => ∃ k : Nat, k ≤ 16 ∧ i = .int .i64 k ∧ ∃ m, (∀ j, j < k → m j = leK (shiftF b (4 * j)) 4) ∧ wr = blkW w H b (fun _ => 0) m) (fun i _ => 16 - (intOf i).toNat)
  case atStart => exact ⟨0, by omega, rfl, _, fun j hj => by omega, rfl⟩
  case round =>
    obtain ⟨k, hk, rfl, m, hm, rfl⟩ := hrel
    by_cases hlt : k < 16
    · have hs : 4 * (k : Int) ≤ 64 := by omega
      have hs0 : 0 ≤ 4 * (k : Int) := by omega
      go_wp2_with (go_at_call 143; refine (little_any _ _ _ _ (shiftF b (4 * k)) _ (by omega) (by unfold maxLen; omega) (fun j hj => ?_)).mono ?_)
      · have h1 : 4 * k + j < 64 := by omega
        simp [go_sem, h1, shiftF]
      rintro e w' ⟨rfl, rfl⟩
      go_wp2
      refine ⟨⟨k + 1, by omega, by go_num, upd m k (leK (shiftF b (4 * k)) 4), fun j hj => ?_, rfl⟩, by simp [intOf]; omega⟩
      unfold upd
      by_cases hjk : j = k
      · subst hjk; rw [if_pos rfl]
      · rw [if_neg hjk]; exact hm j (by omega)
    · obtain rfl : k = 16 := by omega
      clear hlt hk
      have hmw : rowU 16 m = rowU 16 (wordsF b) := rowU_congr hm
      simp only [blkW, hmw, Int.cast_ofNat_Int]
      clear hm hmw m
      have eB : blockF H b t last = fun i => H i ^^^ (rndN (wordsF b) (v0F H t last) 10 i ^^^ rndN (wordsF b) (v0F H t last) 10 (i + 8)) := rfl
      obtain ⟨v0, hv0⟩ : ∃ v0, v0F H t last = v0 := ⟨_, rfl⟩
      rw [hv0] at eB
      cases last
      all_goals
        go_wp2
        go_region
        go_wp2
        go_loopw [55] (fun i wr => ∃ n : Nat, n ≤ 10 ∧ i = .int .i64 n ∧ Ex (blkW w H b (rndN (wordsF b) (v0) n) (wordsF b)) wr) (fun i _ => 10 - (intOf i).toNat)
        case atStart => exact ⟨0, by omega, rfl, by subst hv0; first | exact ex_refl _ | exact ex_drew (ex_refl _)⟩
        case round =>
          obtain ⟨n, hn, rfl, X0, rfl⟩ := hrel
          by_cases hlt : n < 10
          · generalize hv : rndN (wordsF b) (v0) n = v
            go_wp2
            rw [ordersF_shift]
            have hlt' : ((n : Nat) : Int) < 10 := by omega
            simp only [hlt', decide_true]
            obtain ⟨s, hs⟩ : ∃ s : Nat → Nat, s = fun j => ordersN.getD (n * 16 + j) 0 := ⟨_, rfl⟩
            rw [← hs]
            have hsl : ∀ j, s j < 16 := by subst hs; exact fun j => ord_lt _
            have en : rndI (wordsF b) s v 8 = rndN (wordsF b) (v0) (n + 1) := by subst hs; subst hv; rfl
            clear hs hv
            go_loopw [59] (fun i wr => ∃ k : Nat, k ≤ 8 ∧ i = .int .i64 k ∧ Ex ((wx (blkW w H b (rndI (wordsF b) s v k) (wordsF b)) X0).alloc (.cells (rowI 16 (natI s)) 193)) wr) (fun i _ => 8 - (intOf i).toNat)
            case atStart => exact ⟨0, by omega, rfl, ex_refl _⟩
            case round =>
              obtain ⟨k, hk, rfl, X9, rfl⟩ := hrel
              by_cases hlt : k < 8
              · generalize hu : rndI (wordsF b) s v k = u
                go_wp2
                rw [foursF_shift]
                obtain ⟨p, hp⟩ : ∃ p : Nat → Nat, p = fun j => foursN.getD (k * 4 + j) 0 := ⟨_, rfl⟩
                rw [← hp]
                have hpl : ∀ j, p j < 16 := by subst hp; exact fun j => four_lt _
                have eu : step u p (wordsF b (s (2 * k))) (wordsF b (s (2 * k + 1))) = rndI (wordsF b) s v (k + 1) := by subst hu; subst hp; rfl
                clear hp hu
                have q0 : ((p 0 : Nat) : Int) < 16 := by have := hpl 0; omega
                have q1 : ((p 1 : Nat) : Int) < 16 := by have := hpl 1; omega
                have q2 : ((p 2 : Nat) : Int) < 16 := by have := hpl 2; omega
                have q3 : ((p 3 : Nat) : Int) < 16 := by have := hpl 3; omega
                have s0 : ((s (2 * k) : Nat) : Int) < 16 := by have := hsl (2 * k); omega
                have s1 : ((s (2 * k + 1) : Nat) : Int) < 16 := by have := hsl (2 * k + 1); omega
                refine wp_region_late [(0, true), (1, true), (2, true), (3, true), (4, true), (5, true), (6, true), (7, true), (8, true), (9, true), (10, true), (11, true), (12, true), (13, true), (14, true), (15, true), (16, true), (17, true), (18, true), (19, true), (20, true), (21, true), (22, true), (23, true), (24, true), (25, true), (26, true), (27, true), (28, true), (29, true), (30, false)] 32 [(31, some 16, (.cells (rowU 4 fun _ => 0) 197))] (by kernel_rfl) (by kernel_rfl) rfl (by intro x hx ρ W; simp only [List.mem_cons, List.not_mem_nil, or_false] at hx; repeat (first | subst hx | (rcases hx with rfl | hx)); all_goals (first | (simp [nth, go_sem, ptr]; done) | (simp [nth, go_sem, ptr]; rfl))) (fun _ _ d _ _ h => by cases d <;> exact h) (fun _ _ d _ _ h => by cases d <;> exact h) ?_
                simp only [List.map_cons, List.map_nil, nth, List.drop_succ_cons, List.drop_zero, lateR]
                repeat (first | (refine wpMix_look ?_; go_big_quiet_step (fail); refine wpQuiet_nil ?_) | (refine wpMix_eff rfl (fun X1 => ?_); go_wp2_with (go_at_call 144; refine (mix_rowed _ _ _ _ _ _ _).mono ?_; rintro e w' ⟨rfl, X, rfl⟩); refine mixQ_mk (by first | exact ex_refl _ | exact ⟨_, rfl⟩ | exact ex_app _ _ _ | (simp only [wx_wx, wx_drew]; first | exact ex_refl _ | exact ex_app _ _ _ | exact ⟨_, rfl⟩) | (repeat (first | exact ex_refl _ | refine ex_drew ?_ | refine ex_alloc ?_ _ | refine ex_wx ?_ _))) ?_))
                refine wpMix_nil (fun X2 => ?_)
                intro q hq
                simp only [wx_wx, wx_heap_more, ptr] at hq ⊢
                generalize (X1.app X).app X2 = Y at hq ⊢
                clear X X2
                go_wp2
                generalize hl : mixL (u (p 0)) (u (p 1)) (u (p 2)) (u (p 3)) (wordsF b (s (2 * k))) (wordsF b (s (2 * k + 1))) = l
                obtain ⟨Z, hZ⟩ : ∃ Z, Z = Y.sets q 0 (rowU 4 l).toList := ⟨_, rfl⟩
                have hz : Z.at q = some (.cells (rowU 4 l) 197) := by subst hZ; simp [go_sem, hq]
                rw [← hZ]
                clear hZ hq
                have eu' : stepK u p l 4 = rndI (wordsF b) s v (k + 1) := by rw [← eu, ← hl]; rfl
                clear hl eu
                go_loopw [95] (fun i wr => ∃ j : Nat, j ≤ 4 ∧ i = .int .i64 j ∧ wr = wx ((wx ((wx (blkW w H b (stepK u p l j) (wordsF b)) X0).alloc (.cells (rowI 16 (natI s)) 193)) X9).alloc (.cells (rowI 4 (natI p)) 195)) Z) (fun i _ => 4 - (intOf i).toNat)
                case atStart => exact ⟨0, by omega, rfl, rfl⟩
                case round =>
                  obtain ⟨j, hj, rfl, rfl⟩ := hrel
                  by_cases hlt : j < 4
                  · have hpj : ((p j : Nat) : Int) < 16 := by have := hpl j; omega
                    have hpj' : ((p j : Nat)) < 16 := hpl j
                    go_wp2
                    refine ⟨⟨j + 1, by omega, by go_num, rfl⟩, by simp [intOf]; omega⟩
                  · obtain rfl : j = 4 := by omega
                    clear hlt hj
                    go_wp2
                    refine ⟨⟨k + 1, by omega, by go_num, ?_⟩, by simp [intOf]; omega⟩
                    try rw [eu']
                    repeat (first | exact ex_refl _ | refine ex_drew ?_ | refine ex_alloc ?_ _ | refine ex_wx ?_ _)
              · obtain rfl : k = 8 := by omega
                clear hlt hk
                go_wp2
                refine ⟨⟨n + 1, by omega, by go_num, ?_⟩, by simp [intOf]; omega⟩
                try rw [en]
                repeat (first | exact ex_refl _ | refine ex_drew ?_ | refine ex_alloc ?_ _ | refine ex_wx ?_ _)
          · obtain rfl : n = 10 := by omega
            clear hlt hn
            generalize hv : rndN (wordsF b) (v0) 10 = v
            clear hv0
            go_wp2
            go_loopw [107] (fun i wr => ∃ j : Nat, j ≤ 8 ∧ i = .int .i64 j ∧ ∃ G : Nat → UInt32, (∀ i, G i = if i < j then H i ^^^ (v i ^^^ v (i + 8)) else H i) ∧ Ex (blkW w G b v (wordsF b)) wr) (fun i _ => 8 - (intOf i).toNat)
            case atStart => exact ⟨0, by omega, rfl, H, fun i => by rw [if_neg (by omega)], by repeat (first | exact ex_refl _ | refine ex_drew ?_ | refine ex_alloc ?_ _ | refine ex_wx ?_ _)⟩
            case round =>
              obtain ⟨j, hj, rfl, G, hG, X9, rfl⟩ := hrel
              by_cases hlt : j < 8
              · go_wp2
                refine wp_region_mix [(0, true), (1, true), (2, true), (3, true), (4, true), (5, true), (6, true), (7, true), (8, true), (9, true), (10, true), (11, true), (12, true)] 13 (by kernel_rfl) (by kernel_rfl) (fun _ _ d _ _ h => by cases d <;> exact h) ?_
                simp only [List.map_cons, List.map_nil, nth, List.drop_succ_cons, List.drop_zero]
                repeat (first | (refine wpMix_look ?_; go_big_quiet_step (fail); refine wpQuiet_nil ?_) | (refine wpMix_eff rfl (fun X1 => ?_); go_wp2_with (fail); refine mixQ_mk (by first | exact ex_refl _ | exact ⟨_, rfl⟩ | exact ex_app _ _ _ | (simp only [wx_wx, wx_drew]; first | exact ex_refl _ | exact ex_app _ _ _ | exact ⟨_, rfl⟩) | (repeat (first | exact ex_refl _ | refine ex_drew ?_ | refine ex_alloc ?_ _ | refine ex_wx ?_ _))) ?_))
                refine wpMix_nil (fun X2 => ?_)
                go_wp2
                refine ⟨⟨j + 1, by omega, by go_num, upd G j (H j ^^^ (v j ^^^ v (j + 8))), fun i => ?_, ex_wx (ex_refl _) _⟩, by simp [intOf]; omega⟩
                unfold upd
                by_cases hij : i = j
                · subst hij; rw [if_pos rfl, if_pos (by omega)]
                · rw [if_neg hij, hG]
                  by_cases h2 : i < j
                  · rw [if_pos h2, if_pos (by omega)]
                  · rw [if_neg h2, if_neg (by omega)]
              · obtain rfl : j = 8 := by omega
                clear hlt hj
                have hR : rowU 8 G = rowU 8 fun i => H i ^^^ (v i ^^^ v (i + 8)) := rowU_congr fun i hi => by rw [hG, if_pos hi]
                simp only [blkW, hR]
                clear hR hG
                go_wp2
                exact ret_row (cs := rowU 8 fun i => H i ^^^ (v i ^^^ v (i + 8))) Tryd.results122 Tryd.underlying158 rfl info_a8u rfl (by simp [go_sem]) rfl (post_mk (by rw [eB, hv]) (by repeat (first | exact ex_refl _ | refine ex_drew ?_ | refine ex_alloc ?_ _ | refine ex_wx ?_ _)))
end Go.Proofs.YtcdocklbpfdmeaaDoor
