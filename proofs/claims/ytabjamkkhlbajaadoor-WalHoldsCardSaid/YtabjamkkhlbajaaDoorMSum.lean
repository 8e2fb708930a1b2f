import Derived.Test.YtabjamkkhlbajaaDoorMLittle
import Derived.Test.YtabjamkkhlbajaaDoorMSl
import Derived.Test.YtabjamkkhlbajaaDoorRows
import Derived.Test.YtabjamkkhlbajaaDoorCards
import Derived.Test.YtabjamkkhlbajaaDoorTie

/- Sum of the program: what it does. -/
set_option linter.unusedSimpArgs false
set_option linter.unusedVariables false
set_option maxRecDepth 20000
namespace Go.Proofs.YtabjamkkhlbajaaDoor
open Go.RowKit
theorem block_at (H : Nat → UInt32) (b : Nat → UInt8) (x : Int) (m : Nat) (hx : x = m) (hm : m < 18446744073709551616) (last : Bool) (w : World) (g0 : cellsN w 0 0 8 = some (rowU 8 startF)) (g1 : cellsN w 1 0 160 = some (rowI 160 ordersF)) (g2 : cellsN w 2 0 32 = some (rowI 32 foursF)) (z0 : 0 < w.heap.size) (z1 : 1 < w.heap.size) (z2 : 2 < w.heap.size) :
    Calls Tryd.prog 73 #[.agg (rowU 8 H), .agg (rowB 64 b), .int .u64 x, .bool last] w (Post w (.agg (rowU 8 (blockF H b (UInt64.ofNat m) last)))) := by
  have e : x = ln (UInt64.ofNat m) := by rw [hx]; unfold ln; rw [UInt64.toNat_ofNat_of_lt' hm]
  rw [e]
  exact block_any H b (UInt64.ofNat m) last w g0 g1 g2 z0 z1 z2

def arrRaw (P : Program) (t : TypeId) (v : Value) (w : World) : Result Value := (Instr.arrayAt t v).run P w
@[go_sem] theorem arrayAt64 (a : Option Addr) (n c : Nat) (w : World) : (Instr.arrayAt 74 (.slice a n c)).run Tryd.prog w = if 64 ≤ n then .ok (.pointer a) w else arrRaw Tryd.prog 74 (.slice a n c) w := by
  split
  · exact run_arrayAt w 74 _ 64 a n c Tryd.underlying74 ‹_›
  · rfl
@[local go_sem] theorem un_xor_form (x : UInt32) : bits BinOp.xor IntKind.u32 (un x) 16842784 = un (x ^^^ 16842784) := un_xor x 16842784
set_option maxHeartbeats 2000000 in
theorem sum_some (g off n cap : Nat) (f : Nat → UInt8) (w : World) (hn : n ≤ cap) (hcap : cap ≤ maxLen) (hg : g < w.heap.size)
    (hc : ∀ k m, k + m ≤ n → cellsN w g (off + k) m = some (rowB m (shiftF f k)))
    (g0 : cellsN w 0 0 8 = some (rowU 8 startF)) (g1 : cellsN w 1 0 160 = some (rowI 160 ordersF)) (g2 : cellsN w 2 0 32 = some (rowI 32 foursF)) (z0 : 0 < w.heap.size) (z1 : 1 < w.heap.size) (z2 : 2 < w.heap.size) :
    Calls Tryd.prog 56 #[.slice (some ⟨g, off, none⟩) n cap] w (Post w (.agg (rowB 32 (sumF f n)))) := by
  unfold maxLen at hcap
  go_enter Tryd.func56, Tryd.ntmps56
  go_wp2
  go_loopw [4] (fun i wr => ∃ k : Nat, 64 * k ≤ n ∧ (k = 0 ∨ 64 * k < n) ∧ i = .slice (some ⟨g, off + 64 * k, none⟩) (n - 64 * k) (cap - 64 * k) ∧ Ex ((w.alloc (.cells (rowB 32 fun _ => 0) 97)).alloc (.cells (rowU 8 (sumK f k)) 114)) wr) (fun i _ => match i with | .slice _ m _ => m | _ => 0)
  case atStart => exact ⟨0, by omega, Or.inl rfl, rfl, ex_refl _⟩
  case round =>
    obtain ⟨k, hk, hk2, rfl, X0, rfl⟩ := hrel
    by_cases hlt : 64 * k + 64 < n
    · generalize hH : sumK f k = H
      have hc1 := hc (64 * k) 64 (by omega)
      have e1 : 64 < n - 64 * k := by omega
      have e1' : (64 : Int) < ((n - 64 * k : Nat) : Int) := by omega
      have e2 : 64 ≤ n - 64 * k := by omega
      have e3 : (64 : Int) ≤ ((n - 64 * k : Nat) : Int) := by omega
      have e4 : (64 : Int) ≤ ((cap - 64 * k : Nat) : Int) := by omega
      have e5 : ((n - 64 * k : Nat) : Int) ≤ ((cap - 64 * k : Nat) : Int) := by omega
      obtain ⟨T, hT⟩ : ∃ T : Nat, 64 * k + 64 = T := ⟨_, rfl⟩
      go_wp2
      refine wp_region_mix [(0, true), (1, true), (2, true), (3, true), (4, true), (5, true), (6, true), (7, true), (8, true), (9, true), (10, true), (11, false)] 12 (by kernel_rfl) (by kernel_rfl) (fun _ _ d _ _ h => by cases d <;> exact h) ?_
      simp only [List.map_cons, List.map_nil, nth, List.drop_succ_cons, List.drop_zero]
      repeat (first | (refine wpMix_look ?_; go_big_quiet_step (fail); refine wpQuiet_nil ?_) | (refine wpMix_eff rfl (fun X1 => ?_); go_wp2_with (go_at_call 73; refine (block_at _ _ _ T (by omega) (by omega) _ _ (by simp [go_sem, *] <;> (intro hx; exfalso; omega)) (by simp [go_sem, *] <;> (intro hx; exfalso; omega)) (by simp [go_sem, *] <;> (intro hx; exfalso; omega)) (by simp [go_sem] <;> omega) (by simp [go_sem] <;> omega) (by simp [go_sem] <;> omega)).mono ?_; rintro e w' ⟨rfl, X, rfl⟩); refine mixQ_mk (by first | exact ex_refl _ | exact ⟨_, rfl⟩ | exact ex_app _ _ _ | (simp only [wx_wx, wx_drew]; first | exact ex_refl _ | exact ex_app _ _ _ | exact ⟨_, rfl⟩) | (repeat (first | exact ex_refl _ | refine ex_drew ?_ | refine ex_alloc ?_ _ | refine ex_wx ?_ _))) ?_))
      refine wpMix_nil (fun X2 => ?_)
      go_wp2
      refine ⟨⟨k + 1, by omega, Or.inr (by omega), ?_, ?_⟩, ?_⟩
      · rw [show 64 * (k + 1) = 64 * k + 64 by omega, Nat.sub_sub, Nat.sub_sub, ← Nat.add_assoc]
      · have e : sumK f (k + 1) = blockF H (shiftF f (64 * k)) (UInt64.ofNat T) false := by rw [← hH, ← hT]; rfl
        rw [e]
        repeat (first | exact ex_refl _ | refine ex_appR ?_ _ | refine ex_wx ?_ _ | refine ex_drew ?_)
      · show n - 64 * k - 64 < n - 64 * k
        omega
    · have hkl : lastK n = k := by unfold lastK; omega
      have eS : sumU f n = blockF (sumK f k) (tailF f n k) (UInt64.ofNat n) true := by unfold sumU; rw [hkl]
      generalize sumK f k = H at eS ⊢
      obtain ⟨r, hr⟩ : ∃ r, n - 64 * k = r := ⟨_, rfl⟩
      obtain ⟨c2, hc2⟩ : ∃ c2, cap - 64 * k = c2 := ⟨_, rfl⟩
      have hc1 := hc (64 * k) r (by omega)
      have e1 : ¬ 64 < r := by omega
      have e1' : ¬ (64 : Int) < ((r : Nat) : Int) := by omega
      have e2 : min r 64 = r := by omega
      have eT : tailF f n k = over (fun _ => 0) 0 r (shiftF f (64 * k)) := by unfold tailF; rw [hr]
      rw [eT] at eS
      rw [hr, hc2]
      clear hc eT hr hc2 hkl
      go_wp2_with (go_at_call 73; refine (block_at _ _ _ n (by omega) (by omega) _ _ (by simp [go_sem, *] <;> (intro hx; exfalso; omega)) (by simp [go_sem, *] <;> (intro hx; exfalso; omega)) (by simp [go_sem, *] <;> (intro hx; exfalso; omega)) (by simp [go_sem] <;> omega) (by simp [go_sem] <;> omega) (by simp [go_sem] <;> omega)).mono ?_; rintro e w' ⟨rfl, X, rfl⟩)
      have eF : sumF f n = byteF (sumU f n) := rfl
      rw [← eS]
      generalize sumU f n = S at eF ⊢
      clear eS
      go_loopw [39] (fun i wr => ∃ j : Nat, j ≤ 32 ∧ i = .int .i64 j ∧ ∃ G : Nat → UInt8, (∀ i, G i = if i < j then byteF S i else 0) ∧ Ex ((w.alloc (.cells (rowB 32 G) 97)).alloc (.cells (rowU 8 S) 114)) wr) (fun i _ => 32 - (intOf i).toNat)
      case atStart => exact ⟨0, by omega, rfl, fun _ => 0, fun i => by rw [if_neg (by omega)], by repeat (first | exact ex_refl _ | refine ex_appR ?_ _ | refine ex_drew ?_ | refine ex_alloc ?_ _ | refine ex_wx ?_ _)⟩
      case round =>
        obtain ⟨j, hj, rfl, G, hG, X9, rfl⟩ := hrel
        by_cases hlt : j < 32
        · go_wp2
          have eb : un (S (j / 4)) / 2 ^ (8 * (j % 4)) % 256 = bn (byteF S j) := by
            rw [un_shr _ _ (by omega)]; exact un_byte _
          rw [eb, rowB_set]
          refine ⟨⟨j + 1, by omega, by go_num, upd G j (byteF S j), fun i => ?_, by repeat (first | exact ex_refl _ | refine ex_appR ?_ _ | refine ex_drew ?_ | refine ex_wx ?_ _)⟩, by simp [intOf]; omega⟩
          unfold upd
          by_cases hij : i = j
          · subst hij; rw [if_pos rfl, if_pos (by omega)]
          · rw [if_neg hij, hG]
            by_cases h2 : i < j
            · rw [if_pos h2, if_pos (by omega)]
            · rw [if_neg h2, if_neg (by omega)]
        · obtain rfl : j = 32 := by omega
          clear hlt hj
          have hR : rowB 32 G = rowB 32 (byteF S) := rowB_congr fun i hi => by rw [hG, if_pos hi]
          simp only [hR]
          clear hR hG
          go_wp2
          exact ret_row (cs := rowB 32 (byteF S)) Tryd.results56 Tryd.underlying97 rfl info_id rfl (by simp [go_sem]) rfl (post_mk (by rw [eF]) (by repeat (first | exact ex_refl _ | refine ex_appR ?_ _ | refine ex_drew ?_ | refine ex_alloc ?_ _ | refine ex_wx ?_ _)))
set_option maxHeartbeats 2000000 in
theorem sum_zero (a : Option Addr) (cap : Nat) (f : Nat → UInt8) (w : World) (hcap : cap ≤ maxLen)
    (g0 : cellsN w 0 0 8 = some (rowU 8 startF)) (g1 : cellsN w 1 0 160 = some (rowI 160 ordersF)) (g2 : cellsN w 2 0 32 = some (rowI 32 foursF)) (z0 : 0 < w.heap.size) (z1 : 1 < w.heap.size) (z2 : 2 < w.heap.size) :
    Calls Tryd.prog 56 #[.slice a 0 cap] w (Post w (.agg (rowB 32 (sumF f 0)))) := by
  unfold maxLen at hcap
  go_enter Tryd.func56, Tryd.ntmps56
  go_wp2
  go_loopw [4] (fun i wr => i = .slice a 0 cap ∧ wr = ((w.alloc (.cells (rowB 32 fun _ => 0) 97)).alloc (.cells (rowU 8 (sumK f 0)) 114))) (fun i _ => 0)
  case atStart => exact ⟨rfl, rfl⟩
  case round =>
    obtain ⟨rfl, rfl⟩ := hrel
    have eS : sumU f 0 = blockF (sumK f 0) (fun _ => 0) 0 true := by
      unfold sumU tailF
      rw [show lastK 0 = 0 from rfl]
      congr 1
    generalize sumK f 0 = H at eS ⊢
    go_wp2_with (go_at_call 73; refine (block_at _ _ _ 0 (by omega) (by omega) _ _ (by simp [go_sem, *] <;> (intro hx; exfalso; omega)) (by simp [go_sem, *] <;> (intro hx; exfalso; omega)) (by simp [go_sem, *] <;> (intro hx; exfalso; omega)) (by simp [go_sem] <;> omega) (by simp [go_sem] <;> omega) (by simp [go_sem] <;> omega)).mono ?_; rintro e w' ⟨rfl, X, rfl⟩)
    have eF : sumF f 0 = byteF (sumU f 0) := rfl
    rw [← eS]
    generalize sumU f 0 = S at eF ⊢
    clear eS
    go_loopw [39] (fun i wr => ∃ j : Nat, j ≤ 32 ∧ i = .int .i64 j ∧ ∃ G : Nat → UInt8, (∀ i, G i = if i < j then byteF S i else 0) ∧ Ex ((w.alloc (.cells (rowB 32 G) 97)).alloc (.cells (rowU 8 S) 114)) wr) (fun i _ => 32 - (intOf i).toNat)
    case atStart => exact ⟨0, by omega, rfl, fun _ => 0, fun i => by rw [if_neg (by omega)], by repeat (first | exact ex_refl _ | refine ex_appR ?_ _ | refine ex_drew ?_ | refine ex_alloc ?_ _ | refine ex_wx ?_ _)⟩
    case round =>
      obtain ⟨j, hj, rfl, G, hG, X9, rfl⟩ := hrel
      by_cases hlt : j < 32
      · go_wp2
        have eb : un (S (j / 4)) / 2 ^ (8 * (j % 4)) % 256 = bn (byteF S j) := by
          rw [un_shr _ _ (by omega)]; exact un_byte _
        rw [eb, rowB_set]
        refine ⟨⟨j + 1, by omega, by go_num, upd G j (byteF S j), fun i => ?_, by repeat (first | exact ex_refl _ | refine ex_appR ?_ _ | refine ex_drew ?_ | refine ex_wx ?_ _)⟩, by simp [intOf]; omega⟩
        unfold upd
        by_cases hij : i = j
        · subst hij; rw [if_pos rfl, if_pos (by omega)]
        · rw [if_neg hij, hG]
          by_cases h2 : i < j
          · rw [if_pos h2, if_pos (by omega)]
          · rw [if_neg h2, if_neg (by omega)]
      · obtain rfl : j = 32 := by omega
        clear hlt hj
        have hR : rowB 32 G = rowB 32 (byteF S) := rowB_congr fun i hi => by rw [hG, if_pos hi]
        simp only [hR]
        clear hR hG
        go_wp2
        exact ret_row (cs := rowB 32 (byteF S)) Tryd.results56 Tryd.underlying97 rfl info_id rfl (by simp [go_sem]) rfl (post_mk (by rw [eF]) (by repeat (first | exact ex_refl _ | refine ex_appR ?_ _ | refine ex_drew ?_ | refine ex_alloc ?_ _ | refine ex_wx ?_ _)))
/-- **Of whatever slice.** -/
theorem sum_any (a : Option Addr) (n cap : Nat) (f : Nat → UInt8) (w : World) (hn : n ≤ cap) (hcap : cap ≤ maxLen) (hn48 : n ≤ 281474976710656) (hs : SlB w a n f)
    (g0 : cellsN w 0 0 8 = some (rowU 8 startF)) (g1 : cellsN w 1 0 160 = some (rowI 160 ordersF)) (g2 : cellsN w 2 0 32 = some (rowI 32 foursF)) (z0 : 0 < w.heap.size) (z1 : 1 < w.heap.size) (z2 : 2 < w.heap.size) :
    Calls Tryd.prog 56 #[.slice a n cap] w (Post w (.agg (rowB 32 (sumF f n)))) := by
  rcases Nat.eq_zero_or_pos n with h | h
  · subst h; exact sum_zero a cap f w hcap g0 g1 g2 z0 z1 z2
  · obtain ⟨g, off, rfl, hg, hc⟩ := hs.pos h
    exact sum_some g off n cap f w hn hcap hg (SlB.cells hc) g0 g1 g2 z0 z1 z2
end Go.Proofs.YtabjamkkhlbajaaDoor

/- The package's variables; Sum, Block in whatever later world. -/
set_option linter.unusedSimpArgs false
set_option linter.unusedVariables false
set_option maxRecDepth 20000
namespace Go.Proofs.YtabjamkkhlbajaaDoor
open Go.RowKit
/-- The package's variables. -/
structure Glob (w : World) : Prop where
  g0 : cellsN w 0 0 8 = some (rowU 8 startF)
  g1 : cellsN w 1 0 160 = some (rowI 160 ordersF)
  g2 : cellsN w 2 0 32 = some (rowI 32 foursF)
  z0 : 0 < w.heap.size
  z1 : 1 < w.heap.size
  z2 : 2 < w.heap.size
theorem Glob.wx {w : World} (h : Glob w) (X : More) : Glob (wx w X) := by
  obtain ⟨g0, g1, g2, z0, z1, z2⟩ := h
  exact ⟨by simp [go_sem, g0, z0], by simp [go_sem, g1, z1], by simp [go_sem, g2, z2], by simp [go_sem]; omega, by simp [go_sem]; omega, by simp [go_sem]; omega⟩
theorem Glob.ex {w w' : World} (h : Glob w) (k : Ex w w') : Glob w' := by
  obtain ⟨X, rfl⟩ := k; exact h.wx X
theorem sum_glob {w w' : World} (G : Glob w) (k : Ex w w') (a : Option Addr) (n cap : Nat) (f : Nat → UInt8) (hn : n ≤ cap) (hcap : cap ≤ maxLen) (hn48 : n ≤ 281474976710656) (hs : SlB w' a n f) :
    Calls Tryd.prog 56 #[.slice a n cap] w' (Post w' (.agg (rowB 32 (sumF f n)))) := by
  have G' := G.ex k
  exact sum_any a n cap f w' hn hcap hn48 hs G'.g0 G'.g1 G'.g2 G'.z0 G'.z1 G'.z2
end Go.Proofs.YtabjamkkhlbajaaDoor

/- What the rows' list gives: the package's variables. -/
set_option linter.unusedSimpArgs false
set_option linter.unusedVariables false
set_option maxRecDepth 20000
namespace Go.Proofs.YtabjamkkhlbajaaDoor
open Go.RowKit Go.ChangeShapes Go.WideShapes Go.ChangeAt
theorem ownK : ownKnob Tryd.prog.godebug = none := by kernel_rfl
theorem laidOutK : laidOutB Tryd.prog = true := by kernel_rfl
theorem gs : Tryd.prog.globalNamed "tallyhouse/blake.start" = some 0 := by kernel_rfl
theorem go : Tryd.prog.globalNamed "tallyhouse/blake.orders" = some 1 := by kernel_rfl
theorem gf : Tryd.prog.globalNamed "tallyhouse/blake.fours" = some 2 := by kernel_rfl
theorem ts : (Tryd.prog.globals[0]?).map (·.type) = some 114 := by kernel_rfl
theorem to : (Tryd.prog.globals[1]?).map (·.type) = some 130 := by kernel_rfl
theorem tf : (Tryd.prog.globals[2]?).map (·.type) = some 132 := by kernel_rfl
theorem c8u : Tryd.prog.cellsOf 114 = 8 := by kernel_rfl
theorem cu : Tryd.prog.cellsOf 36 = 1 := by kernel_rfl
theorem ci : Tryd.prog.cellsOf 3 = 1 := by kernel_rfl
theorem cb : Tryd.prog.cellsOf 5 = 1 := by kernel_rfl
theorem c16 : Tryd.prog.cellsOf 129 = 16 := by kernel_rfl
theorem c4 : Tryd.prog.cellsOf 131 = 4 := by kernel_rfl
def startL : List Int := [1779033703, 3144134277, 1013904242, 2773480762, 1359893119, 2600822924, 528734635, 1541459225]
def ordersL : List (List Int) := (List.range 10).map fun i => (List.range 16).map fun r => ordersF (i * 16 + r)
def foursL : List (List Int) := (List.range 8).map fun i => (List.range 4).map fun r => foursF (i * 4 + r)
theorem dataS {H : Type} : (Rows.laid_tallyhouse_blake_start : DataW H) = Lib.tabData .u32 startL := rfl
theorem dataO {H : Type} : (Rows.laid_tallyhouse_blake_orders : DataW H) = .agg (ordersL.map (Lib.tabData .i64)) := by kernel_rfl
theorem dataF {H : Type} : (Rows.laid_tallyhouse_blake_fours : DataW H) = .agg (foursL.map (Lib.tabData .i64)) := by kernel_rfl
theorem var_cells {W : World} {name : String} {g : Nat} {cs : Array Value} (hg : Tryd.prog.globalNamed name = some g) (h : W.var? Tryd.prog name = some cs) : g < W.heap.size ∧ ∀ i, W.cell? ⟨g, i, none⟩ = cs[i]? := by
  refine ⟨?_, fun i => World.var?_cell hg h i⟩
  simp only [World.var?, hg, Option.bind_some] at h
  rcases Nat.lt_or_ge g W.heap.size with h1 | h1
  · exact h1
  · rw [Array.getElem?_eq_none h1] at h; cases h
theorem glob_of_laid {W : World} (h : laidMet Tryd.prog [("tallyhouse/blake.start", Rows.laid_tallyhouse_blake_start), ("tallyhouse/blake.orders", Rows.laid_tallyhouse_blake_orders), ("tallyhouse/blake.fours", Rows.laid_tallyhouse_blake_fours)] W) : Glob W := by
  obtain ⟨ps, ⟨g1, t1, cs1, f1, p1, q1, hg1, ht1, hv1, hd1, ⟨g2, t2, cs2, f2, p2, q2, hg2, ht2, hv2, hd2, ⟨g3, t3, cs3, f3, p3, q3, hg3, ht3, hv3, hd3, _, _⟩, _⟩, _⟩, _⟩ := h
  obtain rfl := Option.some.inj (gs.symm.trans hg1)
  obtain rfl := Option.some.inj (go.symm.trans hg2)
  obtain rfl := Option.some.inj (gf.symm.trans hg3)
  obtain rfl := Option.some.inj (ts.symm.trans ht1)
  obtain rfl := Option.some.inj (to.symm.trans ht2)
  obtain rfl := Option.some.inj (tf.symm.trans ht3)
  obtain ⟨z1, c1⟩ := var_cells gs hv1
  obtain ⟨z2, c2⟩ := var_cells go hv2
  obtain ⟨z3, c3⟩ := var_cells gf hv3
  rw [dataS] at hd1
  rw [dataO] at hd2
  rw [dataF] at hd3
  have e1 := Lib.cells_of_tab Tryd.underlying114 Tryd.underlying36 cu c8u hd1
  have e2 := nest_of_tab Tryd.underlying130 Tryd.underlying129 Tryd.underlying3 ci c16 hd2
  have e3 := nest_of_tab Tryd.underlying132 Tryd.underlying131 Tryd.underlying3 ci c4 hd3
  refine ⟨cellsN_some.2 ⟨by simp, fun j hj => ?_⟩, cellsN_some.2 ⟨by simp, fun j hj => ?_⟩, cellsN_some.2 ⟨by simp, fun j hj => ?_⟩, z1, z2, z3⟩
  · rw [Nat.zero_add, c1, show cs1 = rowU 8 startF from by
      apply Array.toList_inj.1; rw [e1]; rfl]
  · rw [Nat.zero_add, c2, rowI_get, if_pos hj]
    have h4 := e2 (j / 16) (j % 16) (by omega) (by omega)
    rw [show j / 16 * 16 + j % 16 = j by omega, Array.getElem?_toList] at h4
    rw [h4]
    have h5 : ordersL[j / 16]? = some ((List.range 16).map fun r => ordersF (j / 16 * 16 + r)) := by
      unfold ordersL; rw [List.getElem?_map, List.getElem?_range (by omega)]; rfl
    rw [h5]
    simp only [Option.bind_some, List.getElem?_map, List.getElem?_range (show j % 16 < 16 by omega), Option.map_some]
    rw [show j / 16 * 16 + j % 16 = j by omega]
  · rw [Nat.zero_add, c3, rowI_get, if_pos hj]
    have h4 := e3 (j / 4) (j % 4) (by omega) (by omega)
    rw [show j / 4 * 4 + j % 4 = j by omega, Array.getElem?_toList] at h4
    rw [h4]
    have h5 : foursL[j / 4]? = some ((List.range 4).map fun r => foursF (j / 4 * 4 + r)) := by
      unfold foursL; rw [List.getElem?_map, List.getElem?_range (by omega)]; rfl
    rw [h5]
    simp only [Option.bind_some, List.getElem?_map, List.getElem?_range (show j % 4 < 4 by omega), Option.map_some]
    rw [show j / 4 * 4 + j % 4 = j by omega]
end Go.Proofs.YtabjamkkhlbajaaDoor

/- A start for the cards' witnesses. -/
set_option linter.unusedSimpArgs false
set_option linter.unusedVariables false
set_option maxRecDepth 20000
namespace Go.Proofs.YtabjamkkhlbajaaDoor
open Go.RowKit Go.ChangeShapes Go.WideShapes Go.ChangeAt
/-- A block's cells anew. -/
def setBlk (w : World) (i : Nat) (cs : Array Value) : World := { w with heap := w.heap.modify i fun
      | .cells _ t frozen => .cells cs t frozen
      | o => o }
noncomputable def laidWorld (os : Os) : World :=
  setBlk (setBlk (setBlk (World.holding Tryd.prog os ⟨#[], #[], []⟩) 0 (rowU 8 startF)) 1 (rowI 160 ordersF)) 2 (rowI 32 foursF)
end Go.Proofs.YtabjamkkhlbajaaDoor
