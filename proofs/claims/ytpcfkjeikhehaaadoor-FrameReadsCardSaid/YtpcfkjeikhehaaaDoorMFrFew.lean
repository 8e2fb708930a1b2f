import Derived.Test.YtpcfkjeikhehaaaDoorMFrF

/- few: a message in memory of its own. -/
set_option linter.unusedSimpArgs false
set_option linter.unusedVariables false
set_option maxRecDepth 20000
namespace Go.Proofs.YtpcfkjeikhehaaaDoor
open Go.RowKit
def fewE (e : En) : En := (e.1, e.2.1, e.2.2.take 1500)
def fewM (m : Ms) : Ms := { m with es := (m.es.take 9).map fewE, mb := m.mb.take 6, da := m.da.take 65537 }
theorem SlZ.take {w : World} {a : Option Addr} {n c : Nat} {l : List Int} (h : SlZ w (.slice a n c) l) (k : Nat) (hk : k ≤ l.length) : SlZ w (.slice a k c) (l.take k) := by
  obtain ⟨a', c', hv, h1, h2, h3, h4⟩ := h.out
  obtain ⟨rfl, rfl, rfl⟩ : a = a' ∧ n = l.length ∧ c = c' := by simpa using hv
  refine ⟨a, c, by rw [List.length_take, Nat.min_eq_left hk], by rw [List.length_take]; omega, h2, h3, ?_⟩
  rcases h4.out with rfl | ⟨g, off, h5, h6, h7⟩
  · exact ⟨Or.inl (by simp)⟩
  · refine ⟨Or.inr ⟨g, off, h5, h6, fun i x hx => ?_⟩⟩
    rw [List.getElem?_take] at hx
    split at hx
    · exact h7 i x hx
    · cases hx
theorem fewE_snoc {l : List En} {k : Nat} (hk : k < l.length) (h9 : k < 9) : (l.take (min (k + 1) 9)).map fewE = (l.take (min k 9)).map fewE ++ [fewE (enAt l k)] := by
  rw [Nat.min_eq_left (by omega), Nat.min_eq_left (by omega), take_en hk, List.map_append]; rfl
theorem App.exE {A w w' : World} {v v' : Value} (h : App w w' v v') (k : Ex A w) (hv : ∀ g, v.ownBlock = some g → A.heap.size ≤ g) : Ex A w' := ex_of_below ((ex_below k).trans (h.below (ex_size k) hv))
theorem info_msg : (Tryd.prog.info? 41).map (·.size) = some 11 := by kernel_rfl
@[go_sem] theorem load_msg (b o : Nat) (w : World) : loadRun Tryd.prog 41 (.pointer (some ⟨b, o, none⟩)) w = match cellsN w b o 11 with | some cs => .ok (.value (.agg cs)) w | none => loadRaw Tryd.prog 41 (.pointer (some ⟨b, o, none⟩)) w := loadRun_row Tryd.underlying41 rfl info_msg b o w
@[go_sem] theorem store_msg (b o : Nat) (vs : Array Value) (w : World) : storeRun Tryd.prog 41 (.pointer (some ⟨b, o, none⟩)) (.agg vs) w = if (vs.size == 11 && (cellsN w b o 11).isSome && !frozenN w b o 11 && oneCells vs) = true then .ok .skip (w.setCells b o vs.toList) else storeRaw Tryd.prog 41 (.pointer (some ⟨b, o, none⟩)) (.agg vs) w := storeRun_row info_msg b o vs w
theorem block_cells {w : World} {b n : Nat} {cs : Array Value} {t : TypeId} (h : w.heap[b]? = some (.cells cs t (0, 0))) (hn : cs.size = n) : cellsN w b 0 n = some cs ∧ frozenN w b 0 n = false := by
  subst hn
  refine ⟨cellsN_some.2 ⟨rfl, fun j hj => ?_⟩, frozenN_false.2 fun j hj => ?_⟩
  · rw [Nat.zero_add, cell_of_row w b j cs t (0, 0) h]
  · simp [World.frozen?, h]
theorem msg_set (a0 a1 a2 a3 a4 a5 a6 a7 a8 a9 a10 x y z : Value) : ((#[a0, a1, a2, a3, a4, a5, a6, a7, a8, a9, a10].setIfInBounds 6 x).setIfInBounds 9 y).setIfInBounds 10 z = #[a0, a1, a2, a3, a4, a5, x, a7, a8, y, z] := rfl
theorem splice_all (c : Array Value) (vs : List Value) (h : vs.length = c.size) : spliceA c 0 vs = vs.toArray := by
  apply arr_ext; intro j
  rw [spliceA_get]
  by_cases hj : j < vs.length
  · rw [if_pos ⟨by omega, by omega, by omega⟩, Nat.sub_zero, List.getElem?_toArray]
  · rw [if_neg (by omega), Array.getElem?_eq_none (by omega), List.getElem?_toArray, List.getElem?_eq_none (by omega)]
theorem ex_setCells {A w : World} (k : Ex A w) {b : Nat} (hb : A.heap.size ≤ b) (o : Nat) (vs : List Value) : Ex A (w.setCells b o vs) :=
  ex_of_below ((ex_below k).trans (setCells_below hb vs o w))
theorem OwnE.low {w : World} {Z Z' : Nat} {v : Value} {l : List En} (h : OwnE w Z v l) (hz : Z' ≤ Z) : OwnE w Z' v l := by
  obtain ⟨es, h1, h2, h3⟩ := h.out
  exact ⟨es, h1, owns_low h2 hz, fun i e he => by obtain ⟨dv, q1, q2, q3⟩ := h3 i e he; exact ⟨dv, q1, q2, fun g hg => ⟨Nat.le_trans hz (q3 g hg).1, (q3 g hg).2⟩⟩⟩
/-- A value that is a message whose lists lie in memory of the call's own. -/
structure MsO (w : World) (Z : Nat) (v : Value) (m : Ms) : Prop where
  out : ∃ ev mv dv, v = .agg #[I m.kd, I m.fr, I m.to, L m.tm, L m.pi, L m.pt, ev, L m.cm, .bool m.ok, mv, dv] ∧ OwnE w Z ev m.es ∧ OwnI w Z mv m.mb ∧ OwnL w Z dv m.da
theorem MsO.msv {w : World} {Z : Nat} {v : Value} {m : Ms} (h : MsO w Z v m) : MsV w v m := by
  obtain ⟨ev, mv, dv, rfl, h1, h2, h3⟩ := h.out
  exact ⟨_, _, _, rfl, h1.slg, h2.slz, h3.slt⟩
theorem MsO.keep {w w' : World} {Z : Nat} {v : Value} {m : Ms} (h : MsO w Z v m) (k : Keep Z w w') : MsO w' Z v m := by
  obtain ⟨ev, mv, dv, rfl, h1, h2, h3⟩ := h.out
  exact ⟨_, _, _, rfl, h1.keep k, own_keep h2 k, own_keep h3 k⟩
theorem few_end {w A wr w2 w3 : World} {ev mv dv : Value} {es : List En} {mb : List Int} {da : List UInt8} {zs vs : List Value} (hs0 : w.heap.size + 2 = A.heap.size) (hk0 : Ex w A) (HA : Ex A wr) (HO : OwnE wr A.heap.size ev es)
    (K2 : Ex (wr.setCell ⟨w.heap.size, 6, none⟩ ev) w2) (hI : OwnI w2 (wr.setCell ⟨w.heap.size, 6, none⟩ ev).heap.size mv mb)
    (K3 : Ex (w2.setCell ⟨w.heap.size, 9, none⟩ mv) w3) (hL : OwnL w3 (w2.setCell ⟨w.heap.size, 9, none⟩ mv).heap.size dv da)
    (hz4 : (w3.setCell ⟨w.heap.size, 10, none⟩ dv).heap[w.heap.size + 1]? = some (.cells zs.toArray 41 (0, 0))) (hzs : zs.length = vs.length) (hv : vs.length = 11) :
    cellsN ((w3.setCell ⟨w.heap.size, 10, none⟩ dv).setCells (w.heap.size + 1) 0 vs) (w.heap.size + 1) 0 11 = some vs.toArray ∧
      OwnE ((w3.setCell ⟨w.heap.size, 10, none⟩ dv).setCells (w.heap.size + 1) 0 vs) w.heap.size ev es ∧ OwnI ((w3.setCell ⟨w.heap.size, 10, none⟩ dv).setCells (w.heap.size + 1) 0 vs) w.heap.size mv mb ∧
      OwnL ((w3.setCell ⟨w.heap.size, 10, none⟩ dv).setCells (w.heap.size + 1) 0 vs) w.heap.size dv da ∧ Ex w ((w3.setCell ⟨w.heap.size, 10, none⟩ dv).setCells (w.heap.size + 1) 0 vs) := by
  have s1 : (wr.setCell ⟨w.heap.size, 6, none⟩ ev).heap.size = wr.heap.size := by simp [World.setCell]
  have s2 : (w2.setCell ⟨w.heap.size, 9, none⟩ mv).heap.size = w2.heap.size := by simp [World.setCell]
  have a1 := ex_size HA
  have a2 := ex_size K2
  have a3 := ex_size K3
  rw [s1] at hI a2
  rw [s2] at hL a3
  have kf : Keep A.heap.size w3 ((w3.setCell ⟨w.heap.size, 10, none⟩ dv).setCells (w.heap.size + 1) 0 vs) := Keep.sets (Keep.set (Keep.refl _ _) (by omega) _) (by omega) _
  have k3 : Keep A.heap.size w2 ((w3.setCell ⟨w.heap.size, 10, none⟩ dv).setCells (w.heap.size + 1) 0 vs) := ((Keep.set (Keep.refl _ _) (by omega) _).trans (Keep.ofEx K3)).trans kf
  have k2 : Keep A.heap.size wr ((w3.setCell ⟨w.heap.size, 10, none⟩ dv).setCells (w.heap.size + 1) 0 vs) := ((Keep.set (Keep.refl _ _) (by omega) _).trans (Keep.ofEx K2)).trans k3
  have hI' : OwnI w2 A.heap.size mv mb := owns_low hI (by omega)
  have hL' : OwnL w3 A.heap.size dv da := owns_low hL (by omega)
  have hI2 : OwnI ((w3.setCell ⟨w.heap.size, 10, none⟩ dv).setCells (w.heap.size + 1) 0 vs) A.heap.size mv mb := own_keep hI' k3
  have hL2 : OwnL ((w3.setCell ⟨w.heap.size, 10, none⟩ dv).setCells (w.heap.size + 1) 0 vs) A.heap.size dv da := own_keep hL' kf
  have hbk := setCells_block (w.heap.size + 1) 41 (0, 0) vs 0 _ _ hz4
  rw [splice_all _ _ (by simp [hzs])] at hbk
  refine ⟨(block_cells hbk (by simp [hv])).1, (HO.keep k2).low (by omega), owns_low hI2 (by omega), owns_low hL2 (by omega), ?_⟩
  exact ex_setCells (ex_set (ex_trans (ex_set (ex_trans (ex_set (ex_trans hk0 HA) (Nat.le_refl _) _) K2) (Nat.le_refl _) _) K3) (Nat.le_refl _) _) (by omega) _ _
theorem nofz_ex {w w' : World} {g : Nat} (h : NoFz w g) (hg : g < w.heap.size) (k : Ex w w') : NoFz w' g := h.same (by obtain ⟨X, rfl⟩ := k; exact wx_heap w X g hg)
theorem few_step {A wr w2 : World} {et : UInt64} {ek : Int} {da : Option Addr} {dn dc : Nat} {t9 : TypeId} {u v2 : Value} {l : List En} {d' : List UInt8} (HA : Ex A wr) (HO : OwnE wr A.heap.size u l)
    (K2 : Ex (wr.alloc (.cells #[L et, I ek, .slice da dn dc] t9)) w2) (hO2 : OwnL w2 (wr.alloc (.cells #[L et, I ek, .slice da dn dc] t9)).heap.size v2 d') :
    w2.cell? ⟨wr.heap.size, 0, none⟩ = some (L et) ∧ w2.cell? ⟨wr.heap.size, 1, none⟩ = some (I ek) ∧ w2.cell? ⟨wr.heap.size, 2, none⟩ = some (.slice da dn dc) ∧ w2.frozen? ⟨wr.heap.size, 2, none⟩ = false ∧
      Hid (Ex wr (w2.setCell ⟨wr.heap.size, 2, none⟩ v2)) ∧ Hid (SlT (w2.setCell ⟨wr.heap.size, 2, none⟩ v2) v2 d') ∧ Hid (∀ b, v2.ownBlock = some b → A.heap.size ≤ b ∧ b < w2.heap.size ∧ u.ownBlock ≠ some b ∧ NoFz (w2.setCell ⟨wr.heap.size, 2, none⟩ v2) b) ∧ wr.heap.size < w2.heap.size := by
  have hb := ex_block K2 (heap_alloc_new wr (.cells #[L et, I ek, .slice da dn dc] t9))
  have hs : (wr.alloc (.cells #[L et, I ek, .slice da dn dc] t9)).heap.size = wr.heap.size + 1 := by simp [go_sem]
  have hk := ex_size K2
  have hA := ex_size HA
  rw [hs] at hO2 hk
  have hO3 : OwnL (w2.setCell ⟨wr.heap.size, 2, none⟩ v2) (wr.heap.size + 1) v2 d' := own_keep hO2 (Keep.set (Keep.refl _ _) (by omega) _)
  refine ⟨(block_cell (o := 0) hb rfl).1, (block_cell (o := 1) hb rfl).1, (block_cell (o := 2) hb rfl).1, (block_cell (o := 2) hb rfl).2, Lib.hid (ex_set (ex_trans (ex_alloc (ex_refl _) _) K2) (Nat.le_refl _) _), Lib.hid hO3.slt, Lib.hid fun b hbb => ?_, by omega⟩
  have h1 := (World.ownsRow.lt hO2 b hbb)
  refine ⟨by omega, h1.2, fun hu => ?_, own_nofz hO3 hbb⟩
  have := (HO.lt b hu).2
  omega
set_option maxHeartbeats 4000000 in
theorem few_own (m : Ms) (v : Value) (w : World) (hs : MsV w v m) :
    Calls Tryd.prog 16 #[v] w fun e w' => ∃ v', e = .returned v' ∧ MsO w' w.heap.size v' (fewM m) ∧ Ex w w' := by
  obtain ⟨ev, mv, dv, rfl, h1, h2, h3⟩ := hs.out
  have H1 := Lib.hid h1
  have H2 := Lib.hid h2
  have H3 := Lib.hid h3
  obtain ⟨a1, c1, rfl, e1, e2, e3, hrow⟩ := h1.out
  obtain ⟨a2, c2, rfl, f1, f2, f3, _⟩ := h2.out
  obtain ⟨a3, c3, rfl, g1, g2, g3, _⟩ := h3.out
  have HE : Hid (∀ W, Ex w W → ∀ i, i < m.es.length → ∃ g off da dc, a1 = some ⟨g, off, none⟩ ∧ g < W.heap.size ∧ W.cell? ⟨g, off + i * 3, none⟩ = some (L (enAt m.es i).1) ∧ W.cell? ⟨g, off + i * 3 + 1, none⟩ = some (I (enAt m.es i).2.1) ∧
    W.cell? ⟨g, off + i * 3 + 2, none⟩ = some (.slice da (enAt m.es i).2.2.length dc) ∧ SlT W (.slice da (enAt m.es i).2.2.length dc) (enAt m.es i).2.2) := Lib.hid fun W k i hi => (hrow.ex k).row hi
  have HS := Lib.hid (fun k (hk : k < m.es.length) (h9 : k < 9) => fewE_snoc hk h9)
  have HF : Hid ((m.es.take (min m.es.length 9)).map fewE = (fewM m).es) := Lib.hid (by
    show _ = (m.es.take 9).map fewE
    by_cases h9 : m.es.length ≤ 9
    · rw [Nat.min_eq_left h9, List.take_of_length_le h9, List.take_of_length_le (Nat.le_refl _)]
    · rw [Nat.min_eq_right (by omega)])
  have HF9 : Hid (∀ k, 9 ≤ k → (m.es.take (min (k + 1) 9)).map fewE = (m.es.take (min k 9)).map fewE) := Lib.hid fun k hk => by rw [Nat.min_eq_right (by omega), Nat.min_eq_right hk]
  have HF0 : Hid ((m.es.take (min 0 9)).map fewE = []) := Lib.hid (by simp)
  obtain ⟨pre, hpre⟩ : ∃ pre : Nat → List En, pre = fun k => (m.es.take (min k 9)).map fewE := ⟨_, rfl⟩
  have HS2 : Hid (∀ k, k < m.es.length → k < 9 → pre (k + 1) = pre k ++ [fewE (enAt m.es k)]) := Lib.hid (by subst hpre; exact HS.out)
  have HFn : Hid (pre m.es.length = (fewM m).es) := Lib.hid (by subst hpre; exact HF.out)
  have HFc : Hid (∀ k, 9 ≤ k → pre (k + 1) = pre k) := Lib.hid (by subst hpre; exact HF9.out)
  have HFz : Hid (pre 0 = []) := Lib.hid (by subst hpre; exact HF0.out)
  have HFl : Hid (∀ k, (pre k).length ≤ 9) := Lib.hid (by subst hpre; intro k; simp; omega)
  clear HS HF HF9 HF0 hpre h1 h2 h3 hs hrow
  generalize hen : m.es.length = n at *
  generalize enAt m.es = E at *
  unfold maxLen at e2 f2 g2
  have hs0 : w.heap.size + 2 = ((w.alloc (.cells #[I m.kd, I m.fr, I m.to, L m.tm, L m.pi, L m.pt, .slice a1 n c1, L m.cm, .bool m.ok, .slice a2 m.mb.length c2, .slice a3 m.da.length c3] 41)).alloc (.cells #[.int .i64 0, .int .i64 0, .int .i64 0, .int .u64 0, .int .u64 0, .int .u64 0, .slice none 0 0, .int .u64 0, .bool false, .slice none 0 0, .slice none 0 0] 41)).heap.size := by simp [go_sem]
  have hq0 : ((w.alloc (.cells #[I m.kd, I m.fr, I m.to, L m.tm, L m.pi, L m.pt, .slice a1 n c1, L m.cm, .bool m.ok, .slice a2 m.mb.length c2, .slice a3 m.da.length c3] 41)).alloc (.cells #[.int .i64 0, .int .i64 0, .int .i64 0, .int .u64 0, .int .u64 0, .int .u64 0, .slice none 0 0, .int .u64 0, .bool false, .slice none 0 0, .slice none 0 0] 41)).heap[w.heap.size]? = some (.cells #[I m.kd, I m.fr, I m.to, L m.tm, L m.pi, L m.pt, .slice a1 n c1, L m.cm, .bool m.ok, .slice a2 m.mb.length c2, .slice a3 m.da.length c3] 41 (0, 0)) := (ex_of_alloc _ _ _ (by simp [go_sem])).trans (heap_alloc_new w _)
  have hq1 : ((w.alloc (.cells #[I m.kd, I m.fr, I m.to, L m.tm, L m.pi, L m.pt, .slice a1 n c1, L m.cm, .bool m.ok, .slice a2 m.mb.length c2, .slice a3 m.da.length c3] 41)).alloc (.cells #[.int .i64 0, .int .i64 0, .int .i64 0, .int .u64 0, .int .u64 0, .int .u64 0, .slice none 0 0, .int .u64 0, .bool false, .slice none 0 0, .slice none 0 0] 41)).heap[w.heap.size + 1]? = some (.cells #[.int .i64 0, .int .i64 0, .int .i64 0, .int .u64 0, .int .u64 0, .int .u64 0, .slice none 0 0, .int .u64 0, .bool false, .slice none 0 0, .slice none 0 0] 41 (0, 0)) := alloc_at (by simp [go_sem])
  have hk0 : Ex w ((w.alloc (.cells #[I m.kd, I m.fr, I m.to, L m.tm, L m.pi, L m.pt, .slice a1 n c1, L m.cm, .bool m.ok, .slice a2 m.mb.length c2, .slice a3 m.da.length c3] 41)).alloc (.cells #[.int .i64 0, .int .i64 0, .int .i64 0, .int .u64 0, .int .u64 0, .int .u64 0, .slice none 0 0, .int .u64 0, .bool false, .slice none 0 0, .slice none 0 0] 41)) := ex_alloc (ex_alloc (ex_refl _) _) _
  replace hq0 := Lib.hid hq0
  replace hq1 := Lib.hid hq1
  go_enter Tryd.func16, Tryd.ntmps16
  go_wp2
  generalize ((w.alloc (.cells #[I m.kd, I m.fr, I m.to, L m.tm, L m.pi, L m.pt, .slice a1 n c1, L m.cm, .bool m.ok, .slice a2 m.mb.length c2, .slice a3 m.da.length c3] 41)).alloc (.cells #[.int .i64 0, .int .i64 0, .int .i64 0, .int .u64 0, .int .u64 0, .int .u64 0, .slice none 0 0, .int .u64 0, .bool false, .slice none 0 0, .slice none 0 0] 41)) = A at *
  go_loopw [3, 9] (fun b i W => ∃ k : Nat, k ≤ n ∧ i = I k ∧ Hid (OwnE W A.heap.size b (pre k)) ∧ Hid (Ex A W)) (fun _ i _ => n - (intOf i).toNat)
  case atStart => exact ⟨0, by omega, rfl, Lib.hid (by rw [HFz.out]; exact ownE_nil _ _), Lib.hid (ex_refl _)⟩
  case round =>
    obtain ⟨k, hk, rfl, HO, HA⟩ := hrel
    by_cases hlt : k < n
    · obtain ⟨g, off, da, dc, rfl, r1, c0, c1', c2', hd⟩ := HE.out _ (ex_trans hk0 HA.out) k hlt
      have HSk := Lib.hid (HS2.out k hlt)
      have HCk := Lib.hid (HFc.out k)
      have hzA := ex_size HA.out
      clear HE HS2 HFn HFc HFz H1 H2 H3 hq0 hq1
      by_cases h9 : k < 9
      · have e9 : (k : Int) ≤ 8 := by omega
        have HSk2 := Lib.hid (HSk.out h9)
        clear HSk HCk h9
        generalize E k = e at *
        obtain ⟨et, ek, ed⟩ := e
        simp only at c0 c1' c2' hd
        obtain ⟨m9, hm9⟩ : ∃ m9, min ed.length 1500 = m9 := ⟨_, rfl⟩
        have hT0 := SlT.take hd m9 (by omega)
        rw [show ed.take m9 = ed.take 1500 by
          by_cases h : ed.length ≤ 1500
          · rw [List.take_of_length_le h, List.take_of_length_le (by omega)]
          · rw [show m9 = 1500 by omega]] at hT0
        have hT := Lib.hid hT0
        have hdc : ed.length ≤ dc := by obtain ⟨_, _, hv, h9, _⟩ := hd.out; simp at hv; omega
        have hm : (1500 < ed.length ∧ m9 = 1500) ∨ (¬ 1500 < ed.length ∧ m9 = ed.length) := by omega
        clear hT0 hd hm9
        have hL : (ed.take 1500).length ≤ 1500 := by rw [List.length_take]; omega
        have HSk3 : Hid (pre (k + 1) = pre k ++ [(et, ek, ed.take 1500)]) := Lib.hid HSk2.out
        clear HSk2
        generalize hdn : ed.length = dn at *
        generalize ed.take 1500 = dd at *
        generalize hddn : dd.length = ddn at *
        rcases hm with ⟨q1, rfl⟩ | ⟨q1, rfl⟩
        · have e8 : (1500 : Int) < dn := by omega
          have e7 : (1500 : Int) ≤ dc := by omega
          clear q1
          go_wp2_with (first | (go_at_call 24; (with_reducible refine (cloneS_any dd _ _ (SlT.ex hT.out (by (try show Ex _ _); repeat (first | (with_reducible exact ex_refl _) | (with_reducible assumption) | (with_reducible refine ex_drewL ?_) | (with_reducible refine ex_appR ?_ _) | (with_reducible refine ex_wx ?_ _) | (with_reducible refine ex_drew ?_) | (with_reducible refine ex_alloc ?_ _)))) (by omega)).mono ?_); rintro e w2 ⟨v2, rfl, hO2, K2⟩; obtain ⟨a9, c9, hv9, _⟩ := own_form hO2; (rw [hddn] at hv9); subst hv9; obtain ⟨x0, x1, x2, x3, x4, x5, x6, x7⟩ := few_step HA.out HO.out K2 hO2; clear hO2 K2) | (at_builtin; refine wpAppE (Z := A.heap.size) (v := u3) (dv := Value.slice a9 ddn c9) (l := pre k) (e := ((et, ek, dd) : En)) (g := w2.heap.size) _ _ rfl rfl (OwnE.ex HO.out (ex_trans x4.out (by (try show Ex _ _); repeat (first | (with_reducible exact ex_refl _) | (with_reducible assumption) | (with_reducible refine ex_drewL ?_) | (with_reducible refine ex_appR ?_ _) | (with_reducible refine ex_wx ?_ _) | (with_reducible refine ex_drew ?_) | (with_reducible refine ex_alloc ?_ _))))) rfl rfl (by simp [go_sem]) (by simp [go_sem]) (by simp [go_sem]) (SlT.ex x5.out (by (try show Ex _ _); repeat (first | (with_reducible exact ex_refl _) | (with_reducible assumption) | (with_reducible refine ex_drewL ?_) | (with_reducible refine ex_appR ?_ _) | (with_reducible refine ex_wx ?_ _) | (with_reducible refine ex_drew ?_) | (with_reducible refine ex_alloc ?_ _)))) (fun b hb => ⟨(x6.out b hb).1, Nat.lt_of_lt_of_le (x6.out b hb).2.1 (by simp [go_sem] <;> omega), (x6.out b hb).2.2.1, nofz_ex (x6.out b hb).2.2.2 (by simp [go_sem] <;> exact (x6.out b hb).2.1) (by (try show Ex _ _); repeat (first | (with_reducible exact ex_refl _) | (with_reducible assumption) | (with_reducible refine ex_drewL ?_) | (with_reducible refine ex_appR ?_ _) | (with_reducible refine ex_wx ?_ _) | (with_reducible refine ex_drew ?_) | (with_reducible refine ex_alloc ?_ _)))⟩) (by have := HFl.out k; omega) (by simp [go_sem]; omega) (fun v3 w3 hO3 hA3 => ?_)))
          refine ⟨⟨k + 1, by omega, by go_num, Lib.hid (by rw [HSk3.out]; exact hO3), Lib.hid ?_⟩, by simp [intOf]; omega⟩
          exact hA3.exE (ex_trans HA.out (ex_trans x4.out (by (try show Ex _ _); repeat (first | (with_reducible exact ex_refl _) | (with_reducible assumption) | (with_reducible refine ex_drewL ?_) | (with_reducible refine ex_appR ?_ _) | (with_reducible refine ex_wx ?_ _) | (with_reducible refine ex_drew ?_) | (with_reducible refine ex_alloc ?_ _))))) (fun g hg => (HO.out.lt g hg).1)
        · have e8 : ¬ (1500 : Int) < m9 := by omega
          have e7 : (m9 : Int) ≤ dc := by omega
          clear q1
          go_wp2_with (first | (go_at_call 24; (with_reducible refine (cloneS_any dd _ _ (SlT.ex hT.out (by (try show Ex _ _); repeat (first | (with_reducible exact ex_refl _) | (with_reducible assumption) | (with_reducible refine ex_drewL ?_) | (with_reducible refine ex_appR ?_ _) | (with_reducible refine ex_wx ?_ _) | (with_reducible refine ex_drew ?_) | (with_reducible refine ex_alloc ?_ _)))) (by omega)).mono ?_); rintro e w2 ⟨v2, rfl, hO2, K2⟩; obtain ⟨a9, c9, hv9, _⟩ := own_form hO2; (rw [hddn] at hv9); subst hv9; obtain ⟨x0, x1, x2, x3, x4, x5, x6, x7⟩ := few_step HA.out HO.out K2 hO2; clear hO2 K2) | (at_builtin; refine wpAppE (Z := A.heap.size) (v := u3) (dv := Value.slice a9 ddn c9) (l := pre k) (e := ((et, ek, dd) : En)) (g := w2.heap.size) _ _ rfl rfl (OwnE.ex HO.out (ex_trans x4.out (by (try show Ex _ _); repeat (first | (with_reducible exact ex_refl _) | (with_reducible assumption) | (with_reducible refine ex_drewL ?_) | (with_reducible refine ex_appR ?_ _) | (with_reducible refine ex_wx ?_ _) | (with_reducible refine ex_drew ?_) | (with_reducible refine ex_alloc ?_ _))))) rfl rfl (by simp [go_sem]) (by simp [go_sem]) (by simp [go_sem]) (SlT.ex x5.out (by (try show Ex _ _); repeat (first | (with_reducible exact ex_refl _) | (with_reducible assumption) | (with_reducible refine ex_drewL ?_) | (with_reducible refine ex_appR ?_ _) | (with_reducible refine ex_wx ?_ _) | (with_reducible refine ex_drew ?_) | (with_reducible refine ex_alloc ?_ _)))) (fun b hb => ⟨(x6.out b hb).1, Nat.lt_of_lt_of_le (x6.out b hb).2.1 (by simp [go_sem] <;> omega), (x6.out b hb).2.2.1, nofz_ex (x6.out b hb).2.2.2 (by simp [go_sem] <;> exact (x6.out b hb).2.1) (by (try show Ex _ _); repeat (first | (with_reducible exact ex_refl _) | (with_reducible assumption) | (with_reducible refine ex_drewL ?_) | (with_reducible refine ex_appR ?_ _) | (with_reducible refine ex_wx ?_ _) | (with_reducible refine ex_drew ?_) | (with_reducible refine ex_alloc ?_ _)))⟩) (by have := HFl.out k; omega) (by simp [go_sem]; omega) (fun v3 w3 hO3 hA3 => ?_)))
          refine ⟨⟨k + 1, by omega, by go_num, Lib.hid (by rw [HSk3.out]; exact hO3), Lib.hid ?_⟩, by simp [intOf]; omega⟩
          exact hA3.exE (ex_trans HA.out (ex_trans x4.out (by (try show Ex _ _); repeat (first | (with_reducible exact ex_refl _) | (with_reducible assumption) | (with_reducible refine ex_drewL ?_) | (with_reducible refine ex_appR ?_ _) | (with_reducible refine ex_wx ?_ _) | (with_reducible refine ex_drew ?_) | (with_reducible refine ex_alloc ?_ _))))) (fun g hg => (HO.out.lt g hg).1)
      · have e9 : ¬ (k : Int) ≤ 8 := by omega
        have e10 := HCk.out (by omega)
        clear HSk HCk
        go_wp2
        refine ⟨⟨k + 1, by omega, by go_num, Lib.hid ?_, Lib.hid (ex_trans HA.out (by (try show Ex _ _); repeat (first | (with_reducible exact ex_refl _) | (with_reducible assumption) | (with_reducible refine ex_drewL ?_) | (with_reducible refine ex_appR ?_ _) | (with_reducible refine ex_wx ?_ _) | (with_reducible refine ex_drew ?_) | (with_reducible refine ex_alloc ?_ _))))⟩, by simp [intOf]; omega⟩
        rw [e10]
        exact OwnE.ex HO.out (by (try show Ex _ _); repeat (first | (with_reducible exact ex_refl _) | (with_reducible assumption) | (with_reducible refine ex_drewL ?_) | (with_reducible refine ex_appR ?_ _) | (with_reducible refine ex_wx ?_ _) | (with_reducible refine ex_drew ?_) | (with_reducible refine ex_alloc ?_ _)))
    · obtain rfl : k = n := by omega
      have hzA := ex_size HA.out
      obtain ⟨l9, c9, rfl, hl1, hl2, hl3⟩ := OwnE.form HO.out
      have hb0 := ex_block HA.out hq0.out
      have hb1 := ex_block HA.out hq1.out
      have hq01 : w.heap.size + 1 ≠ w.heap.size := by omega
      have hq10 : w.heap.size ≠ w.heap.size + 1 := by omega
      obtain ⟨t6, tf6⟩ := block_cell (o := 6) hb0 rfl
      obtain ⟨t9, tf9⟩ := block_cell (o := 9) hb0 rfl
      have HFk := Lib.hid HFn.out
      replace hb0 := Lib.hid hb0
      replace hb1 := Lib.hid hb1
      obtain ⟨m6, hm6⟩ : ∃ m6, min m.mb.length 6 = m6 := ⟨_, rfl⟩
      have hN0 := SlZ.take H2.out m6 (by omega)
      rw [show m.mb.take m6 = m.mb.take 6 by
        by_cases h : m.mb.length ≤ 6
        · rw [List.take_of_length_le (by omega), List.take_of_length_le (by omega)]
        · rw [show m6 = 6 by omega]] at hN0
      have hN6 := Lib.hid hN0
      have hn0 : (m.mb.take 6).length = m6 := by rw [List.length_take]; omega
      obtain ⟨m7, hm7⟩ : ∃ m7, min m.da.length 65537 = m7 := ⟨_, rfl⟩
      have hD0 := SlT.take H3.out m7 (by omega)
      rw [show m.da.take m7 = m.da.take 65537 by
        by_cases h : m.da.length ≤ 65537
        · rw [List.take_of_length_le (by omega), List.take_of_length_le (by omega)]
        · rw [show m7 = 65537 by omega]] at hD0
      have hD6 := Lib.hid hD0
      have hd0 : (m.da.take 65537).length = m7 := by rw [List.length_take]; omega
      have HM1 : Hid ((fewM m).mb = m.mb.take 6) := Lib.hid rfl
      have HM2 : Hid ((fewM m).da = m.da.take 65537) := Lib.hid rfl
      clear hN0 hD0 HE HS2 HFc HFz HFl hlt hk H1 H2 H3
      generalize hmb6 : m.mb.take 6 = mb6 at *
      generalize hda6 : m.da.take 65537 = da6 at *
      have hn6 := hn0
      have hd6 := hd0
      generalize hmbl : m.mb.length = mbl at *
      generalize hdal : m.da.length = dal at *
      have hc6 : (6 < mbl ∧ m6 = 6) ∨ (¬ 6 < mbl ∧ m6 = mbl) := by omega
      have hc7 : (65537 < dal ∧ m7 = 65537) ∨ (¬ 65537 < dal ∧ m7 = dal) := by omega
      clear hm6 hm7 hn0 hd0
      have e66 : (m6 : Int) ≤ c2 := by omega
      have e77 : (m7 : Int) ≤ c3 := by omega
      have e67 : m6 ≤ 6 := by omega
      have e78 : m7 ≤ 65537 := by omega
      generalize hpk : (pre k).length = pl at *
      rcases hc6 with ⟨q6, rfl⟩ | ⟨q6, rfl⟩
      · have i6 : (6 : Int) < mbl := by omega
        simp only [Int.cast_ofNat_Int] at e66
        clear q6
        rcases hc7 with ⟨q7, rfl⟩ | ⟨q7, rfl⟩
        · have i7 : (65537 : Int) < dal := by omega
          simp only [Int.cast_ofNat_Int] at e77
          clear q7
          go_wp2_with (first | (go_at_call 30; (with_reducible refine (cloneI_any mb6 _ _ (SlZ.ex hN6.out (ex_set (ex_trans hk0 HA.out) (Nat.le_refl _) _)) (by omega)).mono ?_); rintro e w2 ⟨v2, rfl, hI, K2⟩; obtain ⟨b9, d9, hv9, _⟩ := own_form hI; (rw [hn6] at hv9); subst hv9; have hb2 := ex_block K2 (setCell_block (o := 6) _ hb0.out); have hz2 := ex_block K2 ((setCell_heap _ hq01).trans hb1.out); obtain ⟨s9, sf9⟩ := block_cell (o := 9) hb2 rfl; obtain ⟨s10, sf10⟩ := block_cell (o := 10) hb2 rfl; have KK2 : Ex w w2 := ex_trans (ex_set (ex_trans hk0 HA.out) (Nat.le_refl _) _) K2; (replace hb2 := Lib.hid hb2); (replace hz2 := Lib.hid hz2); (replace hI := Lib.hid hI); (replace K2 := Lib.hid K2)) | (go_at_call 24; (with_reducible refine (cloneS_any da6 _ _ (SlT.ex hD6.out (ex_set KK2 (Nat.le_refl _) _)) (by omega)).mono ?_); rintro e w3 ⟨v3, rfl, hL, K3⟩; have hb3 := ex_block K3 (setCell_block (o := 9) _ hb2.out); have hz3 := ex_block K3 ((setCell_heap _ hq01).trans hz2.out); obtain ⟨y10, yf10⟩ := block_cell (o := 10) hb3 rfl; have hb4 := setCell_block (o := 10) v3 hb3; (rw [msg_set] at hb4); have hz4 := (setCell_heap (o := 10) v3 hq01).trans hz3; obtain ⟨b8, d8, hv8, _⟩ := own_form hL; (rw [hd6] at hv8); subst hv8; obtain ⟨n0, _⟩ := block_cells (n := 11) hb4 rfl; obtain ⟨n1, nf1⟩ := block_cells (n := 11) hz4 rfl; (replace hb3 := Lib.hid hb3); (replace hz3 := Lib.hid hz3); (replace hb4 := Lib.hid hb4); (replace hz4 := Lib.hid hz4); (replace hL := Lib.hid hL); (replace K3 := Lib.hid K3)))
          obtain ⟨r1, r2, r3, r4, r5⟩ := few_end hs0 hk0 HA.out HO.out K2.out hI.out K3.out hL.out hz4.out (vs := [I m.kd, I m.fr, I m.to, L m.tm, L m.pi, L m.pt, .slice l9 pl c9, L m.cm, .bool m.ok, .slice b9 6 d9, .slice b8 65537 d8]) rfl rfl
          exact ret_row Tryd.results16 Tryd.underlying41 rfl info_msg rfl r1 rfl ⟨_, rfl, ⟨_, _, _, rfl, (by rw [← HFk.out]; exact r2), (by rw [HM1.out]; exact r3), (by rw [HM2.out]; exact r4)⟩, r5⟩
        · have i7 : ¬ (65537 : Int) < m7 := by omega
          clear q7
          go_wp2_with (first | (go_at_call 30; (with_reducible refine (cloneI_any mb6 _ _ (SlZ.ex hN6.out (ex_set (ex_trans hk0 HA.out) (Nat.le_refl _) _)) (by omega)).mono ?_); rintro e w2 ⟨v2, rfl, hI, K2⟩; obtain ⟨b9, d9, hv9, _⟩ := own_form hI; (rw [hn6] at hv9); subst hv9; have hb2 := ex_block K2 (setCell_block (o := 6) _ hb0.out); have hz2 := ex_block K2 ((setCell_heap _ hq01).trans hb1.out); obtain ⟨s9, sf9⟩ := block_cell (o := 9) hb2 rfl; obtain ⟨s10, sf10⟩ := block_cell (o := 10) hb2 rfl; have KK2 : Ex w w2 := ex_trans (ex_set (ex_trans hk0 HA.out) (Nat.le_refl _) _) K2; (replace hb2 := Lib.hid hb2); (replace hz2 := Lib.hid hz2); (replace hI := Lib.hid hI); (replace K2 := Lib.hid K2)) | (go_at_call 24; (with_reducible refine (cloneS_any da6 _ _ (SlT.ex hD6.out (ex_set KK2 (Nat.le_refl _) _)) (by omega)).mono ?_); rintro e w3 ⟨v3, rfl, hL, K3⟩; have hb3 := ex_block K3 (setCell_block (o := 9) _ hb2.out); have hz3 := ex_block K3 ((setCell_heap _ hq01).trans hz2.out); obtain ⟨y10, yf10⟩ := block_cell (o := 10) hb3 rfl; have hb4 := setCell_block (o := 10) v3 hb3; (rw [msg_set] at hb4); have hz4 := (setCell_heap (o := 10) v3 hq01).trans hz3; obtain ⟨b8, d8, hv8, _⟩ := own_form hL; (rw [hd6] at hv8); subst hv8; obtain ⟨n0, _⟩ := block_cells (n := 11) hb4 rfl; obtain ⟨n1, nf1⟩ := block_cells (n := 11) hz4 rfl; (replace hb3 := Lib.hid hb3); (replace hz3 := Lib.hid hz3); (replace hb4 := Lib.hid hb4); (replace hz4 := Lib.hid hz4); (replace hL := Lib.hid hL); (replace K3 := Lib.hid K3)))
          obtain ⟨r1, r2, r3, r4, r5⟩ := few_end hs0 hk0 HA.out HO.out K2.out hI.out K3.out hL.out hz4.out (vs := [I m.kd, I m.fr, I m.to, L m.tm, L m.pi, L m.pt, .slice l9 pl c9, L m.cm, .bool m.ok, .slice b9 6 d9, .slice b8 m7 d8]) rfl rfl
          exact ret_row Tryd.results16 Tryd.underlying41 rfl info_msg rfl r1 rfl ⟨_, rfl, ⟨_, _, _, rfl, (by rw [← HFk.out]; exact r2), (by rw [HM1.out]; exact r3), (by rw [HM2.out]; exact r4)⟩, r5⟩
      · have i6 : ¬ (6 : Int) < m6 := by omega
        clear q6
        rcases hc7 with ⟨q7, rfl⟩ | ⟨q7, rfl⟩
        · have i7 : (65537 : Int) < dal := by omega
          simp only [Int.cast_ofNat_Int] at e77
          clear q7
          go_wp2_with (first | (go_at_call 30; (with_reducible refine (cloneI_any mb6 _ _ (SlZ.ex hN6.out (ex_set (ex_trans hk0 HA.out) (Nat.le_refl _) _)) (by omega)).mono ?_); rintro e w2 ⟨v2, rfl, hI, K2⟩; obtain ⟨b9, d9, hv9, _⟩ := own_form hI; (rw [hn6] at hv9); subst hv9; have hb2 := ex_block K2 (setCell_block (o := 6) _ hb0.out); have hz2 := ex_block K2 ((setCell_heap _ hq01).trans hb1.out); obtain ⟨s9, sf9⟩ := block_cell (o := 9) hb2 rfl; obtain ⟨s10, sf10⟩ := block_cell (o := 10) hb2 rfl; have KK2 : Ex w w2 := ex_trans (ex_set (ex_trans hk0 HA.out) (Nat.le_refl _) _) K2; (replace hb2 := Lib.hid hb2); (replace hz2 := Lib.hid hz2); (replace hI := Lib.hid hI); (replace K2 := Lib.hid K2)) | (go_at_call 24; (with_reducible refine (cloneS_any da6 _ _ (SlT.ex hD6.out (ex_set KK2 (Nat.le_refl _) _)) (by omega)).mono ?_); rintro e w3 ⟨v3, rfl, hL, K3⟩; have hb3 := ex_block K3 (setCell_block (o := 9) _ hb2.out); have hz3 := ex_block K3 ((setCell_heap _ hq01).trans hz2.out); obtain ⟨y10, yf10⟩ := block_cell (o := 10) hb3 rfl; have hb4 := setCell_block (o := 10) v3 hb3; (rw [msg_set] at hb4); have hz4 := (setCell_heap (o := 10) v3 hq01).trans hz3; obtain ⟨b8, d8, hv8, _⟩ := own_form hL; (rw [hd6] at hv8); subst hv8; obtain ⟨n0, _⟩ := block_cells (n := 11) hb4 rfl; obtain ⟨n1, nf1⟩ := block_cells (n := 11) hz4 rfl; (replace hb3 := Lib.hid hb3); (replace hz3 := Lib.hid hz3); (replace hb4 := Lib.hid hb4); (replace hz4 := Lib.hid hz4); (replace hL := Lib.hid hL); (replace K3 := Lib.hid K3)))
          obtain ⟨r1, r2, r3, r4, r5⟩ := few_end hs0 hk0 HA.out HO.out K2.out hI.out K3.out hL.out hz4.out (vs := [I m.kd, I m.fr, I m.to, L m.tm, L m.pi, L m.pt, .slice l9 pl c9, L m.cm, .bool m.ok, .slice b9 m6 d9, .slice b8 65537 d8]) rfl rfl
          exact ret_row Tryd.results16 Tryd.underlying41 rfl info_msg rfl r1 rfl ⟨_, rfl, ⟨_, _, _, rfl, (by rw [← HFk.out]; exact r2), (by rw [HM1.out]; exact r3), (by rw [HM2.out]; exact r4)⟩, r5⟩
        · have i7 : ¬ (65537 : Int) < m7 := by omega
          clear q7
          go_wp2_with (first | (go_at_call 30; (with_reducible refine (cloneI_any mb6 _ _ (SlZ.ex hN6.out (ex_set (ex_trans hk0 HA.out) (Nat.le_refl _) _)) (by omega)).mono ?_); rintro e w2 ⟨v2, rfl, hI, K2⟩; obtain ⟨b9, d9, hv9, _⟩ := own_form hI; (rw [hn6] at hv9); subst hv9; have hb2 := ex_block K2 (setCell_block (o := 6) _ hb0.out); have hz2 := ex_block K2 ((setCell_heap _ hq01).trans hb1.out); obtain ⟨s9, sf9⟩ := block_cell (o := 9) hb2 rfl; obtain ⟨s10, sf10⟩ := block_cell (o := 10) hb2 rfl; have KK2 : Ex w w2 := ex_trans (ex_set (ex_trans hk0 HA.out) (Nat.le_refl _) _) K2; (replace hb2 := Lib.hid hb2); (replace hz2 := Lib.hid hz2); (replace hI := Lib.hid hI); (replace K2 := Lib.hid K2)) | (go_at_call 24; (with_reducible refine (cloneS_any da6 _ _ (SlT.ex hD6.out (ex_set KK2 (Nat.le_refl _) _)) (by omega)).mono ?_); rintro e w3 ⟨v3, rfl, hL, K3⟩; have hb3 := ex_block K3 (setCell_block (o := 9) _ hb2.out); have hz3 := ex_block K3 ((setCell_heap _ hq01).trans hz2.out); obtain ⟨y10, yf10⟩ := block_cell (o := 10) hb3 rfl; have hb4 := setCell_block (o := 10) v3 hb3; (rw [msg_set] at hb4); have hz4 := (setCell_heap (o := 10) v3 hq01).trans hz3; obtain ⟨b8, d8, hv8, _⟩ := own_form hL; (rw [hd6] at hv8); subst hv8; obtain ⟨n0, _⟩ := block_cells (n := 11) hb4 rfl; obtain ⟨n1, nf1⟩ := block_cells (n := 11) hz4 rfl; (replace hb3 := Lib.hid hb3); (replace hz3 := Lib.hid hz3); (replace hb4 := Lib.hid hb4); (replace hz4 := Lib.hid hz4); (replace hL := Lib.hid hL); (replace K3 := Lib.hid K3)))
          obtain ⟨r1, r2, r3, r4, r5⟩ := few_end hs0 hk0 HA.out HO.out K2.out hI.out K3.out hL.out hz4.out (vs := [I m.kd, I m.fr, I m.to, L m.tm, L m.pi, L m.pt, .slice l9 pl c9, L m.cm, .bool m.ok, .slice b9 m6 d9, .slice b8 m7 d8]) rfl rfl
          exact ret_row Tryd.results16 Tryd.underlying41 rfl info_msg rfl r1 rfl ⟨_, rfl, ⟨_, _, _, rfl, (by rw [← HFk.out]; exact r2), (by rw [HM1.out]; exact r3), (by rw [HM2.out]; exact r4)⟩, r5⟩
theorem few_any (m : Ms) (v : Value) (w : World) (hs : MsV w v m) :
    Calls Tryd.prog 16 #[v] w fun e w' => ∃ v', e = .returned v' ∧ MsV w' v' (fewM m) ∧ Ex w w' :=
  (few_own m v w hs).mono fun e w' h => by obtain ⟨v', h1, h2, h3⟩ := h; exact ⟨v', h1, h2.msv, h3⟩
end Go.Proofs.YtpcfkjeikhehaaaDoor
