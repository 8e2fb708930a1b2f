import Derived.Test.YtabjamkkhlbajaaDoorMWlC
import Derived.Test.YtabjamkkhlbajaaDoorMDkN

/- The log: a sheet's sectors. -/
set_option linter.unusedSimpArgs false
set_option linter.unusedVariables false
set_option linter.unnecessarySimpa false
set_option maxRecDepth 20000
namespace Go.Proofs.YtabjamkkhlbajaaDoor
open Go.RowKit
theorem run_append_noneW {P : Program} {t ty e : TypeId} {i : TypeInfo} (ht : P.underlying t = some (.slice e)) (hi : P.info? e = some i) (a : Option Addr) (n c : Nat) (hn : n ≤ c) (w : World) :
    (Builtin.append_ #[t, t] ty #[.slice a n c, .slice none 0 0]).run P w = .ok (.slice a n c) w := by
  cases a with
  | none => simp [Builtin.append_, run_underlying ht, sizeOf, typeInfo, hi, Builtin.lenOf, Builtin.firstCells, hn]
  | some ad => simp [Builtin.append_, run_underlying ht, sizeOf, typeInfo, hi, Builtin.lenOf, Builtin.firstCells, hn, storeCells]
/-- append of bytes, nil or not, to bytes of the call's own. -/
theorem wpAppW {ops : Array Oper} {rest : List Oper} {o : Oper} {a : Act} {w : World} {Q : Exit → Act → World → Prop} (s x : Operand) (hgd : o.guard = none)
    (ho : o.op = .call { callee := .builtin .append, args := #[s, x], argTypes := #[22, 22] })
    {Z : Nat} {v vx : Value} {l r : By} (hown : OwnW w Z v l) (hs : a.eval s = v) (hx : a.eval x = vx) (hr : SlT w vx r) (hlen : l.length + r.length ≤ 1000000) (hZ : Z ≤ w.heap.size)
    (h : ∀ v' w', OwnW w' Z v' (l ++ r) → Below Z w w' → wpList Tryd.prog ops Q rest (a.put o.dst v') w') : wpList Tryd.prog ops Q (o :: rest) a w := by
  obtain ⟨ad, c, rfl, h1, h2, h3, h4⟩ := hr.out
  cases ad with
  | none =>
    have hc := h3 rfl
    obtain rfl : r = [] := List.eq_nil_of_length_eq_zero (by omega)
    subst hc
    obtain ⟨i, hi, _⟩ := info_parts appu8.hi
    obtain ⟨b, d, hv, k1, k2, k3, _⟩ := (OwnW.slt hown).out
    have hrun := run_append_noneW (P := Tryd.prog) (ty := o.type) appu8.ht hi b l.length d k1 w
    refine wpList_plain hgd fun K hK => ?_
    unfold Oper.wp execOp
    simp only [ho, resolve, invoke, builtin, Sem.run_bind, Sem.run_pure, Result.andThen_ok, List.map_toArray, List.map_cons, List.map_nil, hs, hx, hv]
    simp only [List.length_nil] at *
    rw [hrun]
    refine hK _ _ (h _ _ ?_ (Below.refl _ _))
    rw [List.append_nil, ← hv]
    exact hown
  | some ad =>
    refine wpAppB s x hgd ho hown hs hx ⟨_, _, rfl, h1, h2, h4⟩ (by omega) hZ fun v' w' k1 k2 => h v' w' ?_ k2
    unfold OwnW
    rw [List.length_append]
    exact k1
theorem manyC_blk (k : Nat) : manyC (.agg (rowB 64 fun _ => 0)) (k * 64) = rowB (64 * k) fun _ => 0 := by
  apply arr_ext
  intro i
  rw [rowB_get]
  by_cases h : i < 64 * k
  · rw [if_pos h]
    have hm := Nat.mod_lt i (show 0 < 64 by omega)
    have hz : (Value.agg (rowB 64 fun _ => 0)).cells = rowB 64 fun _ => 0 := rfl
    unfold manyC madeCells
    rw [hz, rowB_size]
    simp only [Array.getElem?_map, Array.getElem?_range]
    have hr := rowB_get 64 (fun _ => 0) (i % 64)
    rw [if_pos hm] at hr
    rw [if_pos (by omega), Option.map_some, getElem!_def, hr]
  · rw [if_neg h, Array.getElem?_eq_none (by rw [manyC_size]; omega)]
/-- A row of sectors into which a sheet is laid: so many are. -/
def shF (b : By) (i : Nat) : Nat → UInt8 := fun j => if j < 64 * i then gF (sheetL b) j else 0
theorem shF_zero (b : By) (n : Nat) : rowB n (shF b 0) = rowB n fun _ => 0 := rowB_congr fun j hj => by unfold shF; rw [if_neg (by omega)]
theorem shF_splice (b : By) (k i m : Nat) (hi : i < k) (hm : m = min 64 (4 + b.length - 64 * i)) : spliceA (rowB (64 * k) (shF b i)) (64 * i) (rowB m (shiftF (gF (sheetL b)) (64 * i))).toList = rowB (64 * k) (shF b (i + 1)) := by
  have hl : (sheetL b).length = 4 + b.length := by simp [sheetL, hi4_len]
  apply arr_ext
  intro j
  rw [spliceA_get, rowB_get, rowB_get, Array.length_toList, rowB_size, rowB_size, Array.getElem?_toList, rowB_get]
  by_cases hj : j < 64 * k
  · rw [if_pos hj, if_pos hj]
    by_cases h1 : 64 * i ≤ j ∧ j < 64 * i + m
    · rw [if_pos ⟨h1.1, h1.2, hj⟩, if_pos (by omega)]
      unfold shiftF shF
      rw [if_pos (by omega), show 64 * i + (j - 64 * i) = j by omega]
    · rw [if_neg (fun h => h1 ⟨h.1, h.2.1⟩)]
      unfold shF
      by_cases h2 : j < 64 * i
      · rw [if_pos h2, if_pos (by omega)]
      · rw [if_neg h2]
        by_cases h3 : j < 64 * (i + 1)
        · rw [if_pos h3]
          unfold gF
          rw [List.getD_eq_getElem?_getD, List.getElem?_eq_none (by omega)]; rfl
        · rw [if_neg h3]
  · rw [if_neg (by omega), if_neg hj, if_neg hj]
theorem shF_all (b : By) : (rowB (64 * secs b.length) (shF b (secs b.length))).toList = (sheetB b).flatMap KK := by
  have h1 : (rowB (64 * secs b.length) (shF b (secs b.length))) = rowB (64 * secs b.length) (gF (padL b)) := rowB_congr fun j hj => by
    unfold shF
    rw [if_pos hj]
    unfold gF
    rw [padL_get]
  rw [h1]
  have h2 : (sheetB b).flatMap KK = Lib.byteCells ((sheetB b).flatMap blkL) := by
    unfold Lib.byteCells
    rw [List.map_flatMap]
    congr 1
    funext x
    unfold KK
    have : (rowB 64 (bkF x)).toList = Lib.byteCells (blkL x) := by
      rw [← rowB_list, blkL_len]
      exact congrArg Array.toList <| rowB_congr fun i _ => by unfold gF; rw [blkL_get]
    exact this
  rw [h2, sheetB_flat, ← rowB_list, padL_len]
set_option maxHeartbeats 1000000 in
theorem sheet_any {w : World} {v : Value} {b : By} (hs : SlT w v b) (hb : b.length ≤ 50000) :
    Calls Tryd.prog 38 #[v] w (fun e w' => ∃ v', e = .returned v' ∧ w'.ownsRow w.heap.size 75 64 v' (sheetB b).length ((sheetB b).flatMap KK) ∧ ∃ X, w' = wx w X) := by
  obtain ⟨a, c, rfl, h1, h2, h3, h4⟩ := hs.out
  have HSl := Lib.hid hs
  obtain ⟨n, hn⟩ : ∃ n, b.length = n := ⟨_, rfl⟩
  have hk := secI_nat hb
  rw [hn] at h1 hb hk HSl ⊢
  have HP : Hid (∀ w', Ex w w' → Calls Tryd.prog 63 #[.slice none 0 0, .int .u32 n] w' (PostOw w' (hi4 n))) := Lib.hid fun w' k => put32_slt n (by omega) [] (.slice none 0 0) w' (by simp) (slt_nil _) (Or.inl rfl)
  have HSc : Hid (∀ w', Calls Tryd.prog 10 #[I n] w' (Post w' (I ((secs n : Nat) : Int)))) := Lib.hid fun w' => by
    have := sectors_any n (by omega) (by omega) w'
    rwa [hk] at this
  have hsn : 1 ≤ secs n ∧ secs n ≤ 1000 := by unfold secs; omega
  obtain ⟨k, hkk⟩ : ∃ k, secs n = k := ⟨_, rfl⟩
  rw [hkk] at HSc hsn
  have HK := Lib.hid hkk
  have HN := Lib.hid hn
  clear hs hn hk hkk h3 h4
  obtain ⟨hk1, hk2⟩ := hsn
  have e3 : 64 * (k : Int) ≤ 281474976710656 := by omega
  have e4 : (k : Int) ≤ 9223372036854775807 := by omega
  have e5 : (n : Int) % 4294967296 = n := by omega
  go_enter Tryd.func38, Tryd.ntmps38
  go_wp2_with (first | (go_at_call 63; (with_reducible refine (HP.out _ (by (try show Ex _ _); with_reducible repeat (first | exact ex_refl _ | assumption | refine ex_drewL ?_ | refine ex_appR ?_ _ | refine ex_wx ?_ _ | refine ex_drew ?_ | refine ex_alloc ?_ _))).mono ?_); rintro e w2 ⟨v2, rfl, hown, X2, rfl⟩; replace hown := Lib.hid hown) | (at_builtin; refine wpAppW _ _ rfl rfl hown.out rfl rfl (HSl.out.ex (by (try show Ex _ _); with_reducible repeat (first | exact ex_refl _ | assumption | refine ex_drewL ?_ | refine ex_appR ?_ _ | refine ex_wx ?_ _ | refine ex_drew ?_ | refine ex_alloc ?_ _))) (by rw [hi4_len, HN.out]; omega) (by simp [go_sem] <;> omega) (fun v3 w3 hown3 hbe => ?_); obtain ⟨X3, rfl⟩ := exOf (A := w) (by (try show Ex _ _); with_reducible repeat (first | exact ex_refl _ | assumption | refine ex_drewL ?_ | refine ex_appR ?_ _ | refine ex_wx ?_ _ | refine ex_drew ?_ | refine ex_alloc ?_ _)) hbe; replace hown3 := Lib.hid hown3) | (go_at_call 10; (with_reducible refine (HSc.out _).mono ?_); rintro e w4 ⟨rfl, X4, rfl⟩))
  rw [manyC_blk]
  refine wp_worldW fun C hC => ?_
  have hwC : Ex w C := by rw [← hC]; exact (by (try show Ex _ _); with_reducible repeat (first | exact ex_refl _ | assumption | refine ex_drewL ?_ | refine ex_appR ?_ _ | refine ex_wx ?_ _ | refine ex_drew ?_ | refine ex_alloc ?_ _))
  obtain ⟨g, hg⟩ : ∃ g, w.heap.size + (X3.blocks.length + X4.blocks.length) = g := ⟨_, rfl⟩
  rw [hg]
  have hgs : (wx w (X3.app X4)).heap.size = g := by rw [wx_size, ← hg]; simp [More.app]
  have hbC : C.heap[g]? = some (.cells (rowB (64 * k) (shF b 0)) 75 (0, 0)) := by
    rw [← hC, ← hgs, shF_zero]; exact heap_alloc_new _ _
  have hCs : C.heap.size = g + 1 := by rw [← hC, World.size_alloc, hgs]
  obtain ⟨ga, ca, rfl, a1, a2, a3, a4, a5⟩ := own_cellsW (n := 4 + n) (show OwnW _ _ _ (sheetL b) from by unfold sheetL; rw [HN.out]; exact hown3.out) (by unfold sheetL; rw [List.length_append, hi4_len, HN.out]) (by omega)
  have hga : ga < g := by rw [wx_size] at a5; omega
  have hS : SlT C (.slice (some ⟨ga, 0, none⟩) (4 + n) ca) (sheetL b) := by
    have := (OwnW.slt hown3.out).ex (w' := C) (by rw [← hC]; exact (by (try show Ex _ _); with_reducible repeat (first | exact ex_refl _ | assumption | refine ex_drewL ?_ | refine ex_appR ?_ _ | refine ex_wx ?_ _ | refine ex_drew ?_ | refine ex_alloc ?_ _)))
    rw [show hi4 n ++ b = sheetL b from by unfold sheetL; rw [HN.out]] at this
    exact this
  have hwg : w.heap.size ≤ g := by omega
  have hsl : (sheetL b).length = 4 + n := by unfold sheetL; rw [List.length_append, hi4_len, HN.out]
  have HA : Hid (∀ i m, 64 * i + m ≤ 4 + n → cellsN C ga (64 * i) m = some (rowB m (shiftF (gF (sheetL b)) (64 * i)))) := Lib.hid fun i m hm => by
    obtain ⟨_, _, hv, _, _, _, h5⟩ := hS.out
    obtain ⟨ha, _, _⟩ := Value.slice.inj hv
    obtain ⟨g', off, e1, e2, e3⟩ := SlB.pos h5 (by omega)
    rw [← ha] at e1
    cases e1
    have := SlB.cells e3 (64 * i) m (by rw [hsl]; exact hm)
    rwa [Nat.zero_add] at this
  have HKn : Hid (k = secs b.length) := Lib.hid (by rw [HN.out, HK.out])
  have HBl := Lib.hid (shF_all b)
  have HSp := Lib.hid fun i m => shF_splice b k i m
  rw [HN.out] at HSp
  have hk64 : 64 * (k - 1) < 4 + n ∧ 4 + n ≤ 64 * k := by have := HK.out; unfold secs at this; omega
  obtain ⟨hka, hkb⟩ := hk64
  clear hC hgs hg a2 a3 a4 a5 hown hown3 hS hsl HP HSc HSl
  replace hbC := Lib.hid hbC
  go_loopw [21] (fun i W' => ∃ j : Nat, j ≤ k ∧ i = I j ∧ Hid (W'.heap[g]? = some (.cells (rowB (64 * k) (shF b j)) 75 (0, 0))) ∧ Hid (Frm (fun x => x = g) C W')) (fun i _ => k - (intOf i).toNat)
  case atStart => exact ⟨0, by omega, rfl, hbC, Lib.hid (Frm.refl _ _)⟩
  case round =>
    obtain ⟨j, hj, rfl, HB, HF⟩ := hrel
    by_cases hlt : j < k
    · obtain ⟨m, hm⟩ : ∃ m, min 64 (4 + n - 64 * j) = m := ⟨_, rfl⟩
      have hmn : min (64 * (j : Int) + 64) (4 + n) = ((64 * j + m : Nat) : Int) := by omega
      have hjk : j ≤ k - 1 := by omega
      have hm1 : 1 ≤ m ∧ m ≤ 64 ∧ 64 * j + m ≤ 4 + n := by omega
      obtain ⟨m1, m2, m3⟩ := hm1
      have kwr : Ex w wr := ex_of_below ((ex_below hwC).trans (HF.out.below (ex_size hwC) (fun b e => by rw [e]; exact hwg)))
      have hsz := HF.out.size
      have c1 : cellsN wr ga (64 * j) m = some (rowB m (shiftF (gF (sheetL b)) (64 * j))) := (cellsN_same (HF.out.same ga (by omega) (by omega)) _ _).trans (HA.out j m m3)
      have hbr := HB.out
      have hmm : min m 64 = m := by omega
      have n1 : cellsN wr g (j * 64) m = some (rowB m fun i => shF b j (64 * j + i)) := cellsN_some.2 ⟨by simp, fun i hi => by rw [Nat.mul_comm j 64, cell_of_row wr g (64 * j + i) _ _ _ hbr, rowB_get, rowB_get, if_pos (by omega), if_pos hi]⟩
      have f1 : frozenN wr g (j * 64) m = false := frozenN_false.2 fun i hi => by simp [World.frozen?, hbr]
      have zg : g < wr.heap.size := by omega
      have za : ga < wr.heap.size := by omega
      have HSj := Lib.hid (HSp.out j m hlt hm.symm)
      obtain ⟨T, hT⟩ : ∃ T, 64 * j + m = T := ⟨_, rfl⟩
      rw [hT] at hmn m3
      have hTj : T - 64 * j = m := by omega
      have e7 : (j : Int) * 64 = 64 * (j : Int) := by omega
      have e9 : (T : Int) ≤ ca := by omega
      have e10 : T ≤ ca := by omega
      have e8 : (64 * (j : Int)) ≤ (T : Int) := by omega
      generalize shiftF (gF (sheetL b)) (64 * j) = fs at c1 HSj
      replace hmn := Lib.hid hmn
      clear hbr hm
      go_wp2
      rw [hmn.out]
      refine wp_region_forkH (fun w' => ∃ X, w' = wx w X) (.look 0 (.look 1 (.look 2 (.look 3 (.look 4 (.look 5 (.look 6 (.look 7 (.look 8 (.eff 9 .done)))))))))) ((by show Ex _ _; repeat (first | (with_reducible assumption) | (with_reducible exact ex_refl _) | (with_reducible refine ex_wx ?_ _) | (with_reducible refine ex_drew ?_) | (with_reducible refine ex_alloc ?_ _) | (with_reducible refine ex_setCells ?_ hwg _ _)))) (by kernel_rfl) (by kernel_rfl) (fun _ _ d _ _ h => by cases d <;> exact h) ?_
      simp only [Fk.ops, nth]
      repeat (first | ((with_reducible refine wpForkH_look ?_); go_big_quiet_step (fail); (try (with_reducible refine wpQuiet_nil ?_))) | (with_reducible refine wpForkH_eff ?_) | ((with_reducible refine effH_F ?_ ?_); (focus rfl); go_simp) | ((with_reducible refine effH_T ?_ ?_); (focus rfl); (try dsimp only); go_wp2_with (fail); (first | done | refine mixQH_mk ((by show Ex _ _; repeat (first | (with_reducible assumption) | (with_reducible exact ex_refl _) | (with_reducible refine ex_wx ?_ _) | (with_reducible refine ex_drew ?_) | (with_reducible refine ex_alloc ?_ _) | (with_reducible refine ex_setCells ?_ hwg _ _)))) ?_)))
      all_goals (with_reducible refine wpForkH_nil ?_)
      have HB2 : Hid ((wr.setCells g (j * 64) (rowB m fs).toList).drew.heap[g]? = some (.cells (rowB (64 * k) (shF b (j + 1))) 75 (0, 0))) := Lib.hid (by
        have h6 := setCells_block g 75 (0, 0) (rowB m fs).toList (j * 64) wr _ HB.out
        rw [Nat.mul_comm j 64, HSj.out] at h6
        rw [Nat.mul_comm j 64]
        exact h6)
      have HF2 := Lib.hid ((HF.out.sets (b := g) rfl (j * 64) (rowB m fs).toList).trans (Frm.ex (ex_drew (ex_refl _))))
      generalize (wr.setCells g (j * 64) (rowB m fs).toList).drew = D at HB2 HF2 ⊢
      clear c1 n1 f1
      go_wp2
      exact ⟨⟨j + 1, by omega, by go_num, HB2, HF2⟩, by simp [intOf]; omega⟩
    · obtain rfl : j = k := by omega
      have kwr : Ex w wr := ex_of_below ((ex_below hwC).trans (HF.out.below (ex_size hwC) (fun b e => by rw [e]; exact hwg)))
      have hbr := HB.out
      clear hlt hj
      go_wp2
      go_ret
      have hrow : wr.ownsRow w.heap.size 75 64 (.slice (some ⟨g, 0, none⟩) j j) j ((sheetB b).flatMap KK) := by
        refine ⟨?_, Or.inr ⟨g, j, _, rfl, hwg, hbr, Nat.le_refl _, by unfold maxLen; omega, by rw [rowB_size]; omega, ?_⟩⟩
        · rw [flat_len KK_len, sheetB_len, ← HKn.out]
        · rw [← HBl.out, ← HKn.out, List.take_of_length_le]
          rw [Array.length_toList, rowB_size]; omega
      refine ⟨_, rfl, ?_, kwr⟩
      rw [sheetB_len, ← HKn.out]
      exact hrow
end Go.Proofs.YtabjamkkhlbajaaDoor
