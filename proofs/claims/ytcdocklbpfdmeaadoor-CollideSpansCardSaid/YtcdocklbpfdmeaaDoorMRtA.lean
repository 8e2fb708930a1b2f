import Derived.Test.YtcdocklbpfdmeaaDoorMLbA
import Derived.Test.YtcdocklbpfdmeaaDoorMChk
import Derived.Test.YtcdocklbpfdmeaaDoorMTree
import Derived.Test.YtcdocklbpfdmeaaDoorMCoE
import Derived.Test.YtcdocklbpfdmeaaDoorMSeqH
import Derived.WalkSpells
import Derived.ArgAppend

/- Collide: Root and Crown, of the package and of the document. -/
set_option linter.unusedSimpArgs false
set_option linter.unusedVariables false
set_option linter.unnecessarySimpa false
set_option maxRecDepth 20000
namespace Go.Proofs.YtcdocklbpfdmeaaDoor
open Go.RowKit
theorem right_fit {l : List Pr} (h : rightP l = true) : FitL l := fun p hp => by
  obtain ⟨i, hi⟩ := List.mem_iff_getElem?.1 hp
  have := right_size h (List.getElem?_eq_some_iff.1 hi).1
  rw [prAt_mem hi] at this
  exact ⟨by omega, by omega⟩
/-- The crown of pairs. -/
def crownC (S : List UInt8 → Dg) (l : List Pr) : Dg := S (crownL l.length (topC S zeroD leafL l))
theorem crownL_len (m : Nat) (d : Dg) : (crownL m d).length ≤ 1000 := by unfold crownL; simp [bytesD_len, hiL]
set_option maxHeartbeats 1000000 in
theorem refCrown_any (W : Nat) (hW : W ≤ 256) (l : List Pr) (a : Option Addr) (c : Nat) (w : World) (hr : rightP l = true) (hc : l.length ≤ c) (hcm : c ≤ maxLen) (hs : SlP w a l) :
    Calls Tryd.prog 46 #[I W, .slice a l.length c] w (Post w (.agg (rowB 32 (dF (crownC (sumW W) l))))) := by
  have hln := right_len hr
  have HT := Lib.hid fun w' (k : Ex w w') => reftopN_any W hW l.length l a c w' rfl (by omega) hc hcm (hs.ex k) (right_fit hr)
  have HCr := Lib.hid fun w' => refcrownB_any l.length (by omega) (topC (sumW W) zeroD leafL l) w'
  have HS := Lib.hid fun w' v (h : OwnU w' v (crownL l.length (topC (sumW W) zeroD leafL l))) => digest_any W hW h.slt (by have := crownL_len l.length (topC (sumW W) zeroD leafL l); omega)
  unfold crownC
  generalize sumW W (crownL l.length (topC (sumW W) zeroD leafL l)) = z at HS ⊢
  generalize crownL l.length (topC (sumW W) zeroD leafL l) = cr at HCr HS
  generalize topC (sumW W) zeroD leafL l = tp at HT HCr
  clear hs hr
  generalize l.length = n at *
  unfold maxLen at hcm
  go_enter Tryd.func46, Tryd.ntmps46
  go_wp2_with (first | (go_at_call 83; (with_reducible refine (HT.out _ (by (try show Ex _ _); with_reducible repeat (first | exact ex_refl _ | assumption | refine ex_drewL ?_ | refine ex_appR ?_ _ | refine ex_wx ?_ _ | refine ex_drew ?_ | refine ex_alloc ?_ _))).mono ?_); rintro e w2 ⟨rfl, X3, rfl⟩) | (go_at_call 82; (with_reducible refine (HCr.out _).mono ?_); rintro e w2 ⟨v, rfl, hv, X4, rfl⟩; (try simp only [wx_wx, wx_drew] at hv); replace hv := Lib.hid hv) | (go_at_call 26; (with_reducible refine (HS.out _ _ hv.out).mono ?_); rintro e w2 ⟨rfl, X5, rfl⟩))
  exact ret_row (cs := rowB 32 (dF z)) Tryd.results46 Tryd.underlying46 rfl info_id rfl (by simp [go_sem]) rfl (post_mk rfl (by (try show Ex _ _); with_reducible repeat (first | exact ex_refl _ | assumption | refine ex_drewL ?_ | refine ex_appR ?_ _ | refine ex_wx ?_ _ | refine ex_drew ?_ | refine ex_alloc ?_ _)))
end Go.Proofs.YtcdocklbpfdmeaaDoor

/- Collide's laws: cells. -/
set_option linter.unusedSimpArgs false
set_option linter.unusedVariables false
set_option linter.unnecessarySimpa false
set_option maxRecDepth 20000
namespace Go.Proofs.YtcdocklbpfdmeaaDoor
open Go.RowKit
/-- append of pairs onto an empty slice without room. -/
theorem wpAppPE {ops : Array Oper} {rest : List Oper} {o : Oper} {a : Act} {w : World} {Q : Exit → Act → World → Prop} (s x : Operand) (hgd : o.guard = none)
    (ho : o.op = .call { callee := .builtin .append, args := #[s, x], argTypes := #[22, 22] })
    {ao : Option Addr} {r : List Pr} {ad : Addr} {m c : Nat} (hs : a.eval s = .slice ao 0 0) (hx : a.eval x = .slice (some ad) m c) (hm : m = r.length) (hr : SlP w (some ad) r) (h0 : 0 < m) (hlen : m ≤ 1000000)
    (h : ∀ v' w', OwnP w' w.heap.size v' r → Ex w w' → wpList Tryd.prog ops Q rest (a.put o.dst v') w') : wpList Tryd.prog ops Q (o :: rest) a w := by
  obtain ⟨i, hi, h1', h2', h3'⟩ := info_parts appCell.hi
  subst hm
  refine wpList_append_grows w hgd s x _ ho _ i _ 2 32 appCell.ht hi h1' h2' h3' appCell.hzs appCell.hsz ao 0 0 [] hs (fun _ => ⟨rfl, rfl⟩) rfl (fun b hb j u hj => by simp at hj) ad r.length c (r.flatMap KP) hx (flat_len KP_len r) ?_ (KP_one r) (by omega) (by unfold maxLen; omega) (by omega) fun v' w' k1 k2 => ?_
  · rcases hr.out with rfl | ⟨g, off, hg, _, _⟩
    · intro j u hj; simp at hj
    · cases hg; exact slp_news hr
  refine h v' w' (by simpa [OwnP] using k1) ?_
  have hb := below_app (owns_nil w w.heap.size 42 2) (by exact k2) (Nat.le_refl _)
  exact exOf (A := w) (ex_refl w) hb
def cutS (k : Nat) (s : ByteArray) : ByteArray := s.extract 0 (min s.size k)
def cutP (p : Pr) : Pr := (cutS 201 p.1, cutS 90 p.2)
def cellsT (l : List Pr) : List Pr := (l.take 14).map cutP
def PostPr (w : World) (l : List Pr) (e : Ending) (w' : World) : Prop := ∃ v, e = .returned v ∧ OwnP w' w.heap.size v l ∧ (v = .slice none 0 0 ∨ 0 < l.length) ∧ ∃ X, w' = wx w X
theorem slp_oneF {w w' : World} {g : Nat} (p : Pr) (k : Ex (w.alloc (.cells (PC p) 42)) w') (hg : g = w.heap.size) : SlP w' (some ⟨g, 0, none⟩) [p] := by
  subst hg
  have hb := ex_block k (heap_alloc_new w _)
  refine ⟨Or.inr ⟨_, 0, rfl, (Array.getElem?_eq_some_iff.1 hb).1, fun i e he => ?_⟩⟩
  have hi : i = 0 := by
    have := (List.getElem?_eq_some_iff.1 he).1
    simpa using this
  subst hi
  obtain rfl : p = e := by simpa using he
  rw [Nat.zero_mul, Nat.add_zero]
  exact (block_cells (n := 2) hb rfl).1
set_option maxHeartbeats 1000000 in
theorem cellsL_any (l : List Pr) (a : Option Addr) (c : Nat) (w : World) (hc : l.length ≤ c) (hcm : c ≤ maxLen) (hs : SlP w a l) :
    Calls Tryd.prog 12 #[.slice a l.length c] w (PostPr w (cellsT l)) := by
  obtain ⟨n, hn⟩ : ∃ n, l.length = n := ⟨_, rfl⟩
  have HN : Hid (l.length = n) := Lib.hid hn
  rw [hn] at hc ⊢
  clear hn
  unfold maxLen at hcm
  go_enter Tryd.func12, Tryd.ntmps12
  go_wp2
  go_loopw [3, 8] (fun v i W' => ∃ k : Nat, k ≤ n ∧ k ≤ 14 ∧ i = I k ∧ Hid (v = .slice none 0 0 ∨ 0 < k) ∧ Hid (OwnP W' w.heap.size v ((l.take k).map cutP)) ∧ Ex w W') (fun _ i _ => n - (intOf i).toNat)
  case atStart => exact ⟨0, by omega, by omega, rfl, Lib.hid (Or.inl rfl), Lib.hid (ownp_nil _ _), (by (try show Ex _ _); with_reducible repeat (first | exact ex_refl _ | assumption | refine ex_drewL ?_ | refine ex_appR ?_ _ | refine ex_wx ?_ _ | refine ex_drew ?_ | refine ex_alloc ?_ _))⟩
  case round =>
    obtain ⟨k, hk, hk14, rfl, HV, HO, ⟨X, rfl⟩⟩ := hrel
    by_cases hlt : k < n
    · obtain ⟨g, off, rfl, hg, hcell⟩ := hs.pos (by rw [HN.out]; omega)
      obtain ⟨⟨x, y⟩, hxy⟩ : ∃ p, l[k]? = some p := ⟨_, List.getElem?_eq_getElem (by rw [HN.out]; omega)⟩
      have hc1 : cellsN w g (off + k * 2) 2 = some #[.string x, .string y] := hcell k _ hxy
      by_cases hk6 : k = 14
      · have hk6i : ((k : Int) == 14) = true := by rw [hk6]; rfl
        have HT : Hid (cellsT l = (l.take k).map cutP) := Lib.hid (by rw [hk6]; rfl)
        clear hk6 hcell hs
        go_wp2
        go_ret
        exact ⟨_, rfl, by rw [HT.out]; exact HO.out.ex (by (try show Ex _ _); with_reducible repeat (first | exact ex_refl _ | assumption | refine ex_drewL ?_ | refine ex_appR ?_ _ | refine ex_wx ?_ _ | refine ex_drew ?_ | refine ex_alloc ?_ _)), HV.out.imp id fun h => by rw [HT.out, List.length_map, List.length_take, HN.out]; omega, (by (try show Ex _ _); with_reducible repeat (first | exact ex_refl _ | assumption | refine ex_drewL ?_ | refine ex_appR ?_ _ | refine ex_wx ?_ _ | refine ex_drew ?_ | refine ex_alloc ?_ _))⟩
      · have hk6i : ((k : Int) == 14) = false := beq_eq_false_iff_ne.2 (by omega)
        have HT : Hid ((l.take (k + 1)).map cutP = (l.take k).map cutP ++ [(cutS 201 x, cutS 90 y)]) := Lib.hid (by
          obtain ⟨h1, h2⟩ := List.getElem?_eq_some_iff.1 hxy
          rw [List.take_succ_eq_append_getElem h1, List.map_append, h2]; rfl)
        have HX : Hid (x.extract 0 (min (x.size : Int) 201).toNat = cutS 201 x) := Lib.hid (by unfold cutS; congr 1; omega)
        have HY : Hid (y.extract 0 (min (y.size : Int) 90).toNat = cutS 90 y) := Lib.hid (by unfold cutS; congr 1; omega)
        generalize cutS 201 x = x2 at HX HT
        generalize cutS 90 y = y2 at HY HT
        have hlk : ((l.take k).map cutP).length ≤ 14 := by rw [List.length_map, List.length_take]; omega
        clear hcell hs hxy
        go_wp2
        refine wp_region_T (fun w' => ∃ X : Unit, w' = _) 15 [(0, 0), (1, 1), (2, 0), (3, 1), (4, 0), (5, 0), (6, 0), (7, 0), (8, 1), (9, 0), (10, 1), (11, 0), (12, 0), (13, 0), (14, 0), (15, 2), (16, 0), (17, 2)] ⟨(), rfl⟩ (by kernel_rfl) (by kernel_rfl) (fun _ _ d _ _ h => by cases d <;> exact h) ?_
        simp only [List.map_cons, List.map_nil, nth]
        repeat (first | ((with_reducible refine wpSeqT_look ?_); go_big_quiet_step (fail); (with_reducible refine wpQuiet_nil ?_)) | ((with_reducible refine wpSeqT_load ?_); go_big_quiet_step (fail); (with_reducible refine wpQuiet_nil ?_)) | ((with_reducible refine wpSeqT_effF ?_ ?_); (focus rfl); go_simp) | ((with_reducible refine wpSeqT_eff ?_ ?_); (focus rfl); (try dsimp only); go_wp2_with (fail); refine mixQH_mk trivial ?_))
        refine wpSeqT_nil ?_
        rw [HX.out, HY.out]
        have hsl := Lib.hid (fun (w0 : World) w' (gg : Nat) (k' : Ex (w0.alloc (.cells #[.string x2, .string y2] 42)) w') (hgg : gg = w0.heap.size) => slp_oneF (x2, y2) k' hgg)
        go_wp2_with (at_builtin; refine wpAppP (r := [(x2, y2)]) _ _ rfl rfl (HO.out.ex (by (try show Ex _ _); with_reducible repeat (first | exact ex_refl _ | assumption | refine ex_drewL ?_ | refine ex_appR ?_ _ | refine ex_wx ?_ _ | refine ex_drew ?_ | refine ex_alloc ?_ _))) rfl rfl rfl (hsl.out _ _ _ (by (try show Ex _ _); with_reducible repeat (first | exact ex_refl _ | assumption | refine ex_drewL ?_ | refine ex_appR ?_ _ | refine ex_wx ?_ _ | refine ex_drew ?_ | refine ex_alloc ?_ _)) (by simp [go_sem])) (by simp only [List.length_singleton]; omega) (by simp [go_sem] <;> omega) (fun v1 w1 hown1 hbe => ?_); obtain ⟨X8, rfl⟩ := exOf (A := w) (by (try show Ex _ _); with_reducible repeat (first | exact ex_refl _ | assumption | refine ex_drewL ?_ | refine ex_appR ?_ _ | refine ex_wx ?_ _ | refine ex_drew ?_ | refine ex_alloc ?_ _)) hbe; rw [← HT.out] at hown1; replace hown1 := Lib.hid hown1)
        exact ⟨⟨k + 1, by omega, by omega, by go_num, Lib.hid (Or.inr (Nat.succ_pos k)), hown1, (by (try show Ex _ _); with_reducible repeat (first | exact ex_refl _ | assumption | refine ex_drewL ?_ | refine ex_appR ?_ _ | refine ex_wx ?_ _ | refine ex_drew ?_ | refine ex_alloc ?_ _))⟩, by simp [intOf]; omega⟩
    · obtain rfl : k = n := by omega
      have HT : Hid (cellsT l = (l.take k).map cutP) := Lib.hid (by
        unfold cellsT
        rw [List.take_of_length_le (i := 14) (by rw [HN.out]; omega), List.take_of_length_le (i := k) (by rw [HN.out]; omega)])
      clear hlt hk hs
      go_wp2
      go_ret
      exact ⟨_, rfl, by rw [HT.out]; exact HO.out.ex (by (try show Ex _ _); with_reducible repeat (first | exact ex_refl _ | assumption | refine ex_drewL ?_ | refine ex_appR ?_ _ | refine ex_wx ?_ _ | refine ex_drew ?_ | refine ex_alloc ?_ _)), HV.out.imp id fun h => by rw [HT.out, List.length_map, List.length_take, HN.out]; omega, (by (try show Ex _ _); with_reducible repeat (first | exact ex_refl _ | assumption | refine ex_drewL ?_ | refine ex_appR ?_ _ | refine ex_wx ?_ _ | refine ex_drew ?_ | refine ex_alloc ?_ _))⟩
end Go.Proofs.YtcdocklbpfdmeaaDoor
