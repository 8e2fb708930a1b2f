import Derived.Test.YtbobamifpjlmiaaDoorMVer

/- Are pairs the same? -/
set_option linter.unusedSimpArgs false
set_option linter.unusedVariables false
set_option maxRecDepth 20000
namespace Go.Proofs.YtbobamifpjlmiaaDoor
open Go.RowKit
theorem beqS (a b : ByteArray) : (a == b) = decide (a = b) := by
  rw [Bool.eq_iff_iff]
  cases a with | mk x =>
  cases b with | mk y =>
  have h : ((⟨x⟩ : ByteArray) == ⟨y⟩) = (x == y) := rfl
  rw [h]
  simp
theorem eqIn_str (d : Nat) (a b : ByteArray) (w : World) : (Op.equalIn (d + 1) 9 (.string a) (.string b)).run Tryd.prog w = .ok (a == b) w := by
  unfold Op.equalIn
  simp [run_underlying Tryd.underlying9]
theorem part_str (zs : Array Value) (i : Nat) (s : ByteArray) (h : zs[i]? = some (.string s)) (w : World) : (part 9 zs i).run Tryd.prog w = .ok (.string s) w := by
  obtain ⟨j, hj, hs⟩ : ∃ j, Tryd.prog.info? 9 = some j ∧ j.size = 1 := by
    have hi : (Tryd.prog.info? 9).map (·.size) = some 1 := by kernel_rfl
    obtain ⟨j, h1, h2⟩ := Option.map_eq_some_iff.1 hi
    exact ⟨j, h1, h2⟩
  have hrow : (isAgg 9).run Tryd.prog w = .ok false w := by simp [isAgg, run_underlying Tryd.underlying9]
  have hce : Tryd.prog.cellsOf 9 = 1 := by unfold Program.cellsOf; rw [hj]; simp [hs]
  simp [part, run_sizeOf w hj, hce, hrow, h]
theorem eqIn_cell (a b c d : ByteArray) (w : World) : (Op.equal 80 (.agg #[.string a, .string b]) (.agg #[.string c, .string d])).run Tryd.prog w = .ok ((a == c) && (b == d)) w := by
  unfold Op.equal Op.maxDepth
  unfold Op.equalIn
  have hst : Tryd.prog.stoodInHeld 80 = false := by kernel_rfl
  have p0 : ∀ (x y : ByteArray) (w : World), (part 9 #[.string x, .string y] 0).run Tryd.prog w = .ok (.string x) w := fun x y w => part_str _ _ _ rfl w
  have p1 : ∀ (x y : ByteArray) (w : World), (part 9 #[.string x, .string y] 1).run Tryd.prog w = .ok (.string y) w := fun x y w => part_str _ _ _ rfl w
  have e0 : ∀ (x y : ByteArray) (w : World), (Op.equalIn 9999 9 (.string x) (.string y)).run Tryd.prog w = .ok (x == y) w := fun x y w => eqIn_str 9998 x y w
  simp [run_underlying Tryd.underlying80, hst, p0, p1, e0]
  cases (a == c) <;> cases (b == d) <;> simp
@[go_sem high] theorem eql_cell (a b c d : ByteArray) (w : World) : (binOp .eql 80 (.agg #[.string a, .string b]) (.agg #[.string c, .string d])).run Tryd.prog w = .ok (.bool ((a == c) && (b == d))) w := by
  rw [run_eql_struct]
  have := eqIn_cell a b c d w
  unfold Op.equal Op.maxDepth at this
  rw [this]
  rfl
@[go_sem high] theorem neq_cell (a b c d : ByteArray) (w : World) : (binOp .neq 80 (.agg #[.string a, .string b]) (.agg #[.string c, .string d])).run Tryd.prog w = .ok (.bool (!((a == c) && (b == d)))) w := by
  rw [run_neq_struct]
  have := eqIn_cell a b c d w
  unfold Op.equal Op.maxDepth at this
  rw [this]
  rfl
theorem pr_ext {l m : List Pr} (hl : l.length = m.length) (h : ∀ i, i < l.length → prAt l i = prAt m i) : l = m := by
  apply List.ext_getElem?
  intro i
  by_cases hi : i < l.length
  · rw [prAt_get hi, prAt_get (by omega), h i hi]
  · rw [List.getElem?_eq_none (by omega), List.getElem?_eq_none (by omega)]
set_option maxHeartbeats 1000000 in
theorem sameP_any (l m : List Pr) (a b : Option Addr) (c d : Nat) (w : World) (hc : l.length ≤ c) (hcm : c ≤ maxLen) (hd : m.length ≤ d) (hdm : d ≤ maxLen) (hs : SlP w a l) (ht : SlP w b m) :
    Calls Tryd.prog 51 #[.slice a l.length c, .slice b m.length d] w (Post w (.bool (decide (l = m)))) := by
  by_cases hlm : l.length = m.length
  · have HS : Hid (∀ W, Ex w W → ∀ i, i < m.length → ∃ g off, a = some ⟨g, off, none⟩ ∧ g < W.heap.size ∧ cellsN W g (off + i * 2) 2 = some (PC (prAt l i)) ∧ W.cell? ⟨g, off + i * 2, none⟩ = some (.string (prAt l i).1) ∧ W.cell? ⟨g, off + i * 2 + 1, none⟩ = some (.string (prAt l i).2)) := Lib.hid fun W k i hi => (hs.ex k).row (by omega)
    have HT : Hid (∀ W, Ex w W → ∀ i, i < m.length → ∃ g off, b = some ⟨g, off, none⟩ ∧ g < W.heap.size ∧ cellsN W g (off + i * 2) 2 = some (PC (prAt m i)) ∧ W.cell? ⟨g, off + i * 2, none⟩ = some (.string (prAt m i).1) ∧ W.cell? ⟨g, off + i * 2 + 1, none⟩ = some (.string (prAt m i).2)) := Lib.hid fun W k i hi => (ht.ex k).row hi
    have H1 : Hid ((∀ i, i < m.length → prAt l i = prAt m i) → decide (l = m) = true) := Lib.hid fun h => decide_eq_true (pr_ext hlm (by rw [hlm]; exact h))
    have H0 : Hid (∀ i, i < m.length → prAt l i ≠ prAt m i → decide (l = m) = false) := Lib.hid fun i hi h => decide_eq_false fun e => h (by rw [e])
    rw [hlm] at hc ⊢
    generalize decide (l = m) = ov at H0 H1 ⊢
    generalize m.length = n at *
    generalize prAt l = p at HS H0 H1
    generalize prAt m = q at HT H0 H1
    clear hlm hs ht
    unfold maxLen at hcm hdm
    go_enter Tryd.func51, Tryd.ntmps51
    go_wp2
    go_loopw [5] (fun i wr => ∃ k : Nat, k ≤ n ∧ i = I k ∧ Hid (∀ i, i < k → p i = q i) ∧ Ex w wr) (fun i _ => n - (intOf i).toNat)
    case atStart => exact ⟨0, by omega, rfl, Lib.hid (fun i hi => absurd hi (by omega)), (by (try show Ex _ _); repeat (first | (with_reducible exact ex_refl _) | (with_reducible assumption) | (with_reducible refine ex_drewL ?_) | (with_reducible refine ex_appR ?_ _) | (with_reducible refine ex_wx ?_ _) | (with_reducible refine ex_drew ?_) | (with_reducible refine ex_alloc ?_ _)))⟩
    case round =>
      obtain ⟨k, hk, rfl, HK, kr⟩ := hrel
      by_cases hlt : k < n
      · obtain ⟨g, off, rfl, r1, _, r2, r3⟩ := HS.out wr kr k hlt
        obtain ⟨g', off', rfl, s1, _, s2, s3⟩ := HT.out wr kr k hlt
        have H0k := Lib.hid (H0.out k hlt)
        have HKn : Hid (p k = q k → ∀ i, i < k + 1 → p i = q i) := Lib.hid fun h i hi => by
          rcases Nat.lt_or_ge i k with h2 | h2
          · exact HK.out i h2
          · obtain rfl : i = k := by omega
            exact h
        clear H0 H1 HS HT HK
        generalize p k = pk at *
        generalize q k = qk at *
        obtain ⟨pk1, pk2⟩ := pk
        obtain ⟨qk1, qk2⟩ := qk
        simp only at r2 r3 s2 s3
        by_cases he : pk1 = qk1 ∧ pk2 = qk2
        · obtain ⟨rfl, rfl⟩ := he
          have HK3 := Lib.hid (HKn.out rfl)
          have g1 : (pk1 == pk1) = true := by rw [beqS, decide_eq_true rfl]
          have g2 : (pk2 == pk2) = true := by rw [beqS, decide_eq_true rfl]
          clear HKn H0k
          go_wp2
          refine wp_region_seq [(0, true), (1, true), (2, true), (3, true), (4, true), (5, true), (6, true), (7, true), (8, true)] (by kernel_rfl) (by kernel_rfl) (fun _ _ d _ _ h => by cases d <;> exact h) ?_
          simp only [List.map_cons, List.map_nil, nth]
          repeat (first | ((with_reducible refine wpSeq_look ?_); go_big_quiet_step (fail); (with_reducible refine wpQuiet_nil ?_)) | ((with_reducible refine wpSeq_effF ?_ ?_); (focus rfl); go_simp) | ((with_reducible refine wpSeq_eff ?_ ?_); (focus rfl); (try dsimp only); go_wp2_with (fail); refine mixQ_mk (by (try show Ex _ _); repeat (first | (with_reducible exact ex_refl _) | (with_reducible assumption) | (with_reducible refine ex_drewL ?_) | (with_reducible refine ex_appR ?_ _) | (with_reducible refine ex_wx ?_ _) | (with_reducible refine ex_drew ?_) | (with_reducible refine ex_alloc ?_ _))) ?_))
          refine wpSeq_nil ?_
          go_wp2
          refine ⟨⟨k + 1, by omega, by go_num, HK3, (by (try show Ex _ _); repeat (first | (with_reducible exact ex_refl _) | (with_reducible assumption) | (with_reducible refine ex_drewL ?_) | (with_reducible refine ex_appR ?_ _) | (with_reducible refine ex_wx ?_ _) | (with_reducible refine ex_drew ?_) | (with_reducible refine ex_alloc ?_ _)))⟩, by simp [intOf]; omega⟩
        · have hb : ((pk1 == qk1) && (pk2 == qk2)) = false := by
            cases hq : ((pk1 == qk1) && (pk2 == qk2)) with
            | false => rfl
            | true =>
              simp only [beqS, Bool.and_eq_true, decide_eq_true_eq] at hq
              exact absurd hq he
          obtain rfl := H0k.out fun e => he (by cases e; exact ⟨rfl, rfl⟩)
          clear HKn H0k he
          go_wp2
          refine wp_region_seq [(0, true), (1, true), (2, true), (3, true), (4, true), (5, true), (6, true), (7, true), (8, true)] (by kernel_rfl) (by kernel_rfl) (fun _ _ d _ _ h => by cases d <;> exact h) ?_
          simp only [List.map_cons, List.map_nil, nth]
          repeat (first | ((with_reducible refine wpSeq_look ?_); go_big_quiet_step (fail); (with_reducible refine wpQuiet_nil ?_)) | ((with_reducible refine wpSeq_effF ?_ ?_); (focus rfl); go_simp) | ((with_reducible refine wpSeq_eff ?_ ?_); (focus rfl); (try dsimp only); go_wp2_with (fail); refine mixQ_mk (by (try show Ex _ _); repeat (first | (with_reducible exact ex_refl _) | (with_reducible assumption) | (with_reducible refine ex_drewL ?_) | (with_reducible refine ex_appR ?_ _) | (with_reducible refine ex_wx ?_ _) | (with_reducible refine ex_drew ?_) | (with_reducible refine ex_alloc ?_ _))) ?_))
          refine wpSeq_nil ?_
          go_wp2
          go_ret
          exact post_mk rfl (by (try show Ex _ _); repeat (first | (with_reducible exact ex_refl _) | (with_reducible assumption) | (with_reducible refine ex_drewL ?_) | (with_reducible refine ex_appR ?_ _) | (with_reducible refine ex_wx ?_ _) | (with_reducible refine ex_drew ?_) | (with_reducible refine ex_alloc ?_ _)))
      · obtain rfl : k = n := by omega
        obtain rfl := H1.out HK.out
        clear hlt hk H0 HS HT
        go_wp2
        go_ret
        exact post_mk rfl (by (try show Ex _ _); repeat (first | (with_reducible exact ex_refl _) | (with_reducible assumption) | (with_reducible refine ex_drewL ?_) | (with_reducible refine ex_appR ?_ _) | (with_reducible refine ex_wx ?_ _) | (with_reducible refine ex_drew ?_) | (with_reducible refine ex_alloc ?_ _)))
  · have e1 : decide (l = m) = false := decide_eq_false fun e => hlm (by rw [e])
    rw [e1]
    have e2 : ((l.length : Int) == m.length) = false := beq_eq_false_iff_ne.2 (by omega)
    generalize l.length = n1 at *
    generalize m.length = n2 at *
    clear hs ht e1
    go_enter Tryd.func51, Tryd.ntmps51
    go_wp2
    go_ret
    exact post_mk rfl (by (try show Ex _ _); repeat (first | (with_reducible exact ex_refl _) | (with_reducible assumption) | (with_reducible refine ex_drewL ?_) | (with_reducible refine ex_appR ?_ _) | (with_reducible refine ex_wx ?_ _) | (with_reducible refine ex_drew ?_) | (with_reducible refine ex_alloc ?_ _)))
end Go.Proofs.YtbobamifpjlmiaaDoor

/- The document's root, path of pairs. -/
set_option linter.unusedSimpArgs false
set_option linter.unusedVariables false
set_option maxRecDepth 20000
namespace Go.Proofs.YtbobamifpjlmiaaDoor
open Go.RowKit
theorem refrootP_any (l : List Pr) (a : Option Addr) (c : Nat) (w : World) (hL : l.length ≤ 1000) (hc : l.length ≤ c) (hcm : c ≤ maxLen) (hs : SlP w a l) (hsm : smallP l) :
    Calls Tryd.prog 43 #[.slice a l.length c] w (Post w (.agg (rowB 32 (dF (rootP l))))) := by
  have HT : Hid (∀ w', Ex w w' → Calls Tryd.prog 74 #[.slice a l.length c] w' (Post w' (.agg (rowB 32 (dF (topP l)))))) := Lib.hid fun w' k => tops_any l.length l a c w' rfl hL hc hcm (hs.ex k) hsm
  have HC : Hid (∀ w', Calls Tryd.prog 58 #[I l.length, .agg (rowB 32 (dF (topP l)))] w' (PostL w' ([2] ++ hiL ((l.length : Int) % 4294967296).toNat 4 ++ bytesD (topP l)))) := Lib.hid fun w' => refcrown_any l.length (topP l) w'
  have HP : Hid (sumD ([2] ++ hiL ((l.length : Int) % 4294967296).toNat 4 ++ bytesD (topP l)) = rootP l) := Lib.hid rfl
  have HLL : Hid (([2] ++ hiL ((l.length : Int) % 4294967296).toNat 4 ++ bytesD (topP l)).length ≤ 1000) := Lib.hid (by simp [hiL_len, bytesD_len])
  generalize [2] ++ hiL ((l.length : Int) % 4294967296).toNat 4 ++ bytesD (topP l) = L at HC HP HLL
  generalize rootP l = z at HP ⊢
  generalize topP l = t at HT HC
  generalize l.length = n at *
  clear hs hsm
  go_enter Tryd.func43, Tryd.ntmps43
  go_wp2_with (first | (go_at_call 74; (with_reducible refine (HT.out _ (by (try show Ex _ _); repeat (first | (with_reducible exact ex_refl _) | (with_reducible assumption) | (with_reducible refine ex_drewL ?_) | (with_reducible refine ex_appR ?_ _) | (with_reducible refine ex_wx ?_ _) | (with_reducible refine ex_drew ?_) | (with_reducible refine ex_alloc ?_ _)))).mono ?_); rintro e w2 ⟨rfl, X, rfl⟩) | (go_at_call 58; (with_reducible refine (HC.out _).mono ?_); rintro e w2 ⟨v, rfl, hsl, X2, rfl⟩; (try simp only [wx_wx, wx_drew] at hsl)) | (go_at_call 53; refine (refsum_slt (hsl.ex (by (try show Ex _ _); repeat (first | (with_reducible exact ex_refl _) | (with_reducible assumption) | (with_reducible refine ex_drewL ?_) | (with_reducible refine ex_appR ?_ _) | (with_reducible refine ex_wx ?_ _) | (with_reducible refine ex_drew ?_) | (with_reducible refine ex_alloc ?_ _)))).slt (by have := HLL.out; omega)).mono ?_; rintro e w2 ⟨rfl, X3, rfl⟩; (try rw [HP.out])))
  exact ret_row (cs := rowB 32 (dF z)) Tryd.results43 Tryd.underlying26 rfl info_id rfl (by simp [go_sem]) rfl (post_mk rfl (by (try show Ex _ _); repeat (first | (with_reducible exact ex_refl _) | (with_reducible assumption) | (with_reducible refine ex_drewL ?_) | (with_reducible refine ex_appR ?_ _) | (with_reducible refine ex_wx ?_ _) | (with_reducible refine ex_drew ?_) | (with_reducible refine ex_alloc ?_ _))))
/-- The path, as the document says it. -/
def pathR (l : List Pr) (at_ first end_ : Nat) : List Dg :=
  if at_ + l.length ≤ first ∨ end_ ≤ at_ then [topP l]
  else if h : 2 ≤ l.length then
    have h1 := split_lt h
    have h2 := split_pos l.length
    have : (l.take (splitN l.length)).length < l.length := by rw [List.length_take]; omega
    have : (l.drop (splitN l.length)).length < l.length := by rw [List.length_drop]; omega
    pathR (l.take (splitN l.length)) at_ first end_ ++ pathR (l.drop (splitN l.length)) (at_ + splitN l.length) first end_
  else []
termination_by l.length
theorem pathR_out {l : List Pr} {at_ first end_ : Nat} (h : at_ + l.length ≤ first ∨ end_ ≤ at_) : pathR l at_ first end_ = [topP l] := by unfold pathR; rw [if_pos h]
theorem pathR_one {l : List Pr} {at_ first end_ : Nat} (h : ¬ (at_ + l.length ≤ first ∨ end_ ≤ at_)) (h2 : ¬ 2 ≤ l.length) : pathR l at_ first end_ = [] := by unfold pathR; rw [if_neg h, dif_neg h2]
theorem pathR_two {l : List Pr} {at_ first end_ : Nat} (h : ¬ (at_ + l.length ≤ first ∨ end_ ≤ at_)) (h2 : 2 ≤ l.length) :
    pathR l at_ first end_ = pathR (l.take (splitN l.length)) at_ first end_ ++ pathR (l.drop (splitN l.length)) (at_ + splitN l.length) first end_ := by
  conv => lhs; unfold pathR
  rw [if_neg h, dif_pos h2]
/-- What Prove's closure gathers is the document's path. -/
theorem pathR_law (l0 : List Pr) (first end_ : Nat) (n : Nat) : ∀ (at_ : Nat) (path : List Dg), 1 ≤ n → at_ + n ≤ l0.length → (treeD (FP l0 first end_) at_ n path).2 = path ++ pathR ((l0.drop at_).take n) at_ first end_ := by
  induction n using Nat.strongRecOn with
  | ind n ih =>
    intro at_ path h1 h2
    have hl : ((l0.drop at_).take n).length = n := by rw [List.length_take, List.length_drop]; omega
    by_cases ho : at_ + n ≤ first ∨ end_ ≤ at_
    · rw [tree_done (d := topP ((l0.drop at_).take n)) (s1 := path ++ [topP ((l0.drop at_).take n)]) (by unfold FP; rw [if_pos ho]), pathR_out (by rw [hl]; exact ho)]
    · by_cases hn : n = 1
      · subst hn
        rw [tree_done (d := zeroD) (s1 := path) (by unfold FP; rw [if_neg ho, if_pos rfl]), pathR_one (by rw [hl]; exact ho) (by omega), List.append_nil]
      · have k1 := split_lt (n := n) (by omega)
        have k2 := split_pos n
        rw [tree_more (s1 := path) (by unfold FP; rw [if_neg ho, if_neg hn]) (by omega), ih _ k1 at_ path k2 (by omega)]
        simp only
        rw [ih (n - splitN n) (by omega) (at_ + splitN n) _ (by omega) (by omega), pathR_two (l := (l0.drop at_).take n) (by rw [hl]; exact ho) (by omega), hl, List.append_assoc, List.take_take, Nat.min_eq_left (by omega), List.drop_take, List.drop_drop]
theorem pathS_doc (l : List Pr) (r : Rg) (h : 0 < l.length) : pathS l r = pathR l 0 (firstP l r) (endP l r) := by
  unfold pathS
  rw [if_neg (by omega), pathR_law l _ _ l.length 0 [] h (by omega), List.drop_zero, List.take_length, List.nil_append]
theorem pathR_len (N : Nat) : ∀ (l : List Pr) (at_ first end_ : Nat), l.length = N → 1 ≤ N → (pathR l at_ first end_).length ≤ N := by
  induction N using Nat.strongRecOn with
  | ind N ih =>
    intro l at_ first end_ hl h1
    by_cases ho : at_ + l.length ≤ first ∨ end_ ≤ at_
    · rw [pathR_out ho]; simpa using h1
    · by_cases h2 : 2 ≤ l.length
      · have k1 := split_lt h2
        have k2 := split_pos l.length
        rw [pathR_two ho h2, List.length_append]
        have e1 := ih (splitN l.length) (by omega) (l.take (splitN l.length)) at_ first end_ (by rw [List.length_take]; omega) (by omega)
        have e2 := ih (l.length - splitN l.length) (by omega) (l.drop (splitN l.length)) (at_ + splitN l.length) first end_ (by rw [List.length_drop]) (by omega)
        omega
      · rw [pathR_one ho h2]; simp
end Go.Proofs.YtbobamifpjlmiaaDoor

/- The document's path: what it computes. -/
set_option linter.unusedSimpArgs false
set_option linter.unusedVariables false
set_option maxRecDepth 20000
namespace Go.Proofs.YtbobamifpjlmiaaDoor
open Go.RowKit
theorem ownd_oneP {w w' : World} {Z g : Nat} (d : Dg) (k : Ex (w.alloc (.cells (rowB 32 (dF d)) 26)) w') (hg : g = w.heap.size) (hZ : Z ≤ w.heap.size) : OwnD w' Z (.slice (some ⟨g, 0, none⟩) 1 1) [d] :=
  owns_ex (owns_new (n := 1) (cap := 1) hg hZ (by omega) (by decide) (by simp) (by simp only [List.flatMap_cons, List.flatMap_nil, List.append_nil]; exact (List.take_of_length_le (by rw [KD_len]; omega)).symm)) k
theorem small_take {l : List Pr} (h : smallP l) (k : Nat) : smallP (l.take k) := fun p hp => h p (List.mem_of_mem_take hp)
theorem small_drop {l : List Pr} (h : smallP l) (k : Nat) : smallP (l.drop k) := fun p hp => h p (List.mem_of_mem_drop hp)
/-- One digest behind the row, another row stays. -/
theorem rp_step {w wr w6 : World} {o : Obj} {Z2 S2 : Nat} {v v2 v6 : Value} {p p2 : List Dg} (Kw : Ex w wr) (hS : S2 ≤ wr.heap.size) (hown : OwnD wr w.heap.size v p) (hown2 : OwnD wr Z2 v2 p2) (hb2 : ∀ b, v2.ownBlock = some b → b < S2) (hv : ∀ b, v.ownBlock = some b → b < Z2 ∨ S2 ≤ b)
    (hg : (wr.alloc o).grownBy w6 v.ownBlock) (hat : v6.ownBlock = v.ownBlock ∨ v6.ownBlock = some (wr.alloc o).heap.size) :
    Ex w w6 ∧ S2 ≤ w6.heap.size ∧ OwnD w6 Z2 v2 p2 ∧ ∀ b, v6.ownBlock = some b → b < Z2 ∨ S2 ≤ b := by
  have hs : (wr.alloc o).heap.size = wr.heap.size + 1 := by simp [go_sem]
  have hs6 := hg.size
  have ka : Ex w (wr.alloc o) := ex_alloc Kw o
  refine ⟨ex_of_below ((ex_below ka).grown hg (ex_size ka) fun b hb => (hown.lt b hb).1), by omega, own_kept hown2 fun b hb => ?_, fun b hb => ?_⟩
  · have h1 := hown2.lt b hb
    have h2 := hb2 b hb
    rw [hg.block b (by omega) (fun e => by have := hv b e.symm; omega)]
    exact ex_of_alloc _ _ _ h1.2
  · rcases hat with h | h
    · exact hv b (by rw [← h]; exact hb)
    · rw [h] at hb
      have := Option.some.inj hb
      omega
set_option maxHeartbeats 2000000 in
theorem docpath_any (N : Nat) : ∀ (l : List Pr) (at_ first end_ : Nat) (a : Option Addr) (c : Nat) (w : World), l.length = N → 1 ≤ N → at_ + N ≤ 1000 → N ≤ c → c ≤ maxLen → SlP w a l → smallP l →
    Calls Tryd.prog 78 #[.slice a N c, I at_, I first, I end_] w (PostO w (pathR l at_ first end_)) := by
  induction N using Nat.strongRecOn with
  | ind N ih =>
    intro l at_ first end_ a c w hl h1 hat hc hcm hs hsm
    by_cases ho : at_ + N ≤ first ∨ end_ ≤ at_
    · rw [pathR_out (by rw [hl]; exact ho)]
      have HT : Hid (∀ w', Ex w w' → Calls Tryd.prog 74 #[.slice a N c] w' (Post w' (.agg (rowB 32 (dF (topP l)))))) := Lib.hid fun w' k => tops_any N l a c w' hl (by omega) hc hcm (hs.ex k) hsm
      generalize topP l = z at HT ⊢
      clear ih hs hsm hl
      by_cases d1 : at_ + N ≤ first
      · have d1t : decide ((at_ : Int) + N ≤ first) = true := decide_eq_true (by omega)
        clear ho d1
        go_enter Tryd.func78, Tryd.ntmps78
        go_wp2_with (go_at_call 74; (with_reducible refine (HT.out _ (by (try show Ex _ _); repeat (first | (with_reducible exact ex_refl _) | (with_reducible assumption) | (with_reducible refine ex_drewL ?_) | (with_reducible refine ex_appR ?_ _) | (with_reducible refine ex_wx ?_ _) | (with_reducible refine ex_drew ?_) | (with_reducible refine ex_alloc ?_ _)))).mono ?_); rintro e w2 ⟨rfl, X, rfl⟩)
        go_ret
        exact ⟨_, rfl, ownd_oneP z (by (try show Ex _ _); repeat (first | (with_reducible exact ex_refl _) | (with_reducible assumption) | (with_reducible refine ex_drewL ?_) | (with_reducible refine ex_appR ?_ _) | (with_reducible refine ex_wx ?_ _) | (with_reducible refine ex_drew ?_) | (with_reducible refine ex_alloc ?_ _))) (by simp [go_sem]) (by simp [go_sem]), (by (try show Ex _ _); repeat (first | (with_reducible exact ex_refl _) | (with_reducible assumption) | (with_reducible refine ex_drewL ?_) | (with_reducible refine ex_appR ?_ _) | (with_reducible refine ex_wx ?_ _) | (with_reducible refine ex_drew ?_) | (with_reducible refine ex_alloc ?_ _)))⟩
      · have d1t : decide ((at_ : Int) + N ≤ first) = false := decide_eq_false (by omega)
        have d2t : decide ((end_ : Int) ≤ at_) = true := decide_eq_true (by omega)
        have d2u : decide (end_ ≤ at_) = true := decide_eq_true (by omega)
        clear ho d1
        go_enter Tryd.func78, Tryd.ntmps78
        go_wp2_with (go_at_call 74; (with_reducible refine (HT.out _ (by (try show Ex _ _); repeat (first | (with_reducible exact ex_refl _) | (with_reducible assumption) | (with_reducible refine ex_drewL ?_) | (with_reducible refine ex_appR ?_ _) | (with_reducible refine ex_wx ?_ _) | (with_reducible refine ex_drew ?_) | (with_reducible refine ex_alloc ?_ _)))).mono ?_); rintro e w2 ⟨rfl, X, rfl⟩)
        go_ret
        exact ⟨_, rfl, ownd_oneP z (by (try show Ex _ _); repeat (first | (with_reducible exact ex_refl _) | (with_reducible assumption) | (with_reducible refine ex_drewL ?_) | (with_reducible refine ex_appR ?_ _) | (with_reducible refine ex_wx ?_ _) | (with_reducible refine ex_drew ?_) | (with_reducible refine ex_alloc ?_ _))) (by simp [go_sem]) (by simp [go_sem]), (by (try show Ex _ _); repeat (first | (with_reducible exact ex_refl _) | (with_reducible assumption) | (with_reducible refine ex_drewL ?_) | (with_reducible refine ex_appR ?_ _) | (with_reducible refine ex_wx ?_ _) | (with_reducible refine ex_drew ?_) | (with_reducible refine ex_alloc ?_ _)))⟩
    · have d1t : decide ((at_ : Int) + N ≤ first) = false := decide_eq_false (by omega)
      have d2t : decide ((end_ : Int) ≤ at_) = false := decide_eq_false (by omega)
      have d2u : decide (end_ ≤ at_) = false := decide_eq_false (by omega)
      by_cases hn : N = 1
      · subst hn
        have d1u : decide ((at_ : Int) + 1 ≤ first) = false := decide_eq_false (by omega)
        rw [pathR_one (by rw [hl]; exact ho) (by omega)]
        clear ih hs hsm hl ho
        go_enter Tryd.func78, Tryd.ntmps78
        go_wp2
        go_ret
        exact ⟨_, rfl, ownd_nil _ _, (by (try show Ex _ _); repeat (first | (with_reducible exact ex_refl _) | (with_reducible assumption) | (with_reducible refine ex_drewL ?_) | (with_reducible refine ex_appR ?_ _) | (with_reducible refine ex_wx ?_ _) | (with_reducible refine ex_drew ?_) | (with_reducible refine ex_alloc ?_ _)))⟩
      · have h2 : 2 ≤ N := by omega
        have hk1 := split_lt (n := N) h2
        have hk2 := split_pos N
        rw [pathR_two (l := l) (by rw [hl]; exact ho) (by omega), hl]
        obtain ⟨g, off, rfl, hg, _⟩ := hs.pos (by omega)
        have HL : Hid (∀ w', Ex w w' → Calls Tryd.prog 78 #[.slice (some ⟨g, off, none⟩) (splitN N) c, I at_, I first, I end_] w' (PostO w' (pathR (l.take (splitN N)) at_ first end_))) :=
          Lib.hid fun w' k => ih _ hk1 _ at_ first end_ _ c w' (by rw [List.length_take]; omega) hk2 (by omega) (by omega) hcm ((hs.take _).ex k) (small_take hsm _)
        have HR : Hid (∀ w', Ex w w' → Calls Tryd.prog 78 #[.slice (some ⟨g, off + splitN N * 2, none⟩) (N - splitN N) (c - splitN N), I ((at_ : Int) + splitN N), I first, I end_] w' (PostO w' (pathR (l.drop (splitN N)) (at_ + splitN N) first end_))) :=
          Lib.hid fun w' k => by
            have := ih (N - splitN N) (by omega) (l.drop (splitN N)) (at_ + splitN N) first end_ _ (c - splitN N) w' (by rw [List.length_drop]; omega) (by omega) (by omega) (by omega) (by omega) ((hs.drop _).ex k) (small_drop hsm _)
            rwa [show ((at_ + splitN N : Nat) : Int) = (at_ : Int) + splitN N by omega] at this
        have HS := Lib.hid (fun w => refhalf_any N w h2 (by omega))
        have L1 := pathR_len (splitN N) (l.take (splitN N)) at_ first end_ (by rw [List.length_take]; omega) hk2
        have L2 := pathR_len (N - splitN N) (l.drop (splitN N)) (at_ + splitN N) first end_ (by rw [List.length_drop]; omega) (by omega)
        generalize pathR (l.take (splitN N)) at_ first end_ = p1 at HL L1 ⊢
        generalize pathR (l.drop (splitN N)) (at_ + splitN N) first end_ = p2 at HR L2 ⊢
        generalize splitN N = k at hk1 hk2 HL HR HS L1 L2
        have e1 : ((N : Int) == 1) = false := beq_eq_false_iff_ne.2 (by omega)
        have e2 : (k : Int) ≤ N := by omega
        have e3 : (k : Int) ≤ c := by unfold maxLen at hcm; omega
        have e4 : ¬ c = k := by omega
        have e5 : (N : Int) ≤ c := by omega
        clear ih hs hsm hl ho hn
        go_enter Tryd.func78, Tryd.ntmps78
        go_wp2_with (first | (go_at_call 98; refine (HS.out _).mono ?_; rintro e w' ⟨rfl, rfl⟩) | (go_at_call 78; (with_reducible refine (HL.out _ (by (try show Ex _ _); repeat (first | (with_reducible exact ex_refl _) | (with_reducible assumption) | (with_reducible refine ex_drewL ?_) | (with_reducible refine ex_appR ?_ _) | (with_reducible refine ex_wx ?_ _) | (with_reducible refine ex_drew ?_) | (with_reducible refine ex_alloc ?_ _)))).mono ?_); rintro e w2 ⟨v1, rfl, hown1, X1, rfl⟩; replace hown1 := Lib.hid hown1) | (go_at_call 78; (with_reducible refine (HR.out _ (by (try show Ex _ _); repeat (first | (with_reducible exact ex_refl _) | (with_reducible assumption) | (with_reducible refine ex_drewL ?_) | (with_reducible refine ex_appR ?_ _) | (with_reducible refine ex_wx ?_ _) | (with_reducible refine ex_drew ?_) | (with_reducible refine ex_alloc ?_ _)))).mono ?_); rintro e w3 ⟨v2, rfl, hown2, X2, rfl⟩; obtain ⟨qa, qc, rfl, q1, q2, q3, qs⟩ := hown2.slg; clear qs; replace hown2 := Lib.hid hown2))
        obtain ⟨n2, hn2⟩ : ∃ n2, p2.length = n2 := ⟨_, rfl⟩
        have HN2 := Lib.hid hn2
        have L3 : p1.length + n2 ≤ 1000 := by omega
        rw [hn2] at q1 hown2 ⊢
        clear hn2 L1 L2 HL HR HS
        have hz : (wx w X1).heap.size ≤ (wx (wx w X1) X2).heap.size := by rw [wx_size (wx w X1)]; omega
        have hd0 : Hid (OwnD (wx w (X1.app X2)) w.heap.size v1 p1) := Lib.hid (hown1.out.ex (ex_app _ _ _))
        have hb1 : Hid (∀ b, v1.ownBlock = some b → b < (wx w X1).heap.size) := Lib.hid fun b hb => (hown1.out.lt b hb).2
        have hb2 : Hid (∀ b, (Value.slice qa n2 qc).ownBlock = some b → b < (wx (wx w X1) X2).heap.size) := Lib.hid fun b hb => (hown2.out.lt b hb).2
        rw [wx_wx] at hown2 hb2 hz
        generalize (wx w X1).heap.size = Z2 at hown2 hb1 hz
        generalize hS2 : (wx w (X1.app X2)).heap.size = S2 at hz hb2
        clear hown1
        go_loopw [10, 12] (fun v i wr => ∃ q : Nat, q ≤ n2 ∧ i = I q ∧ Hid (OwnD wr w.heap.size v (p1 ++ p2.take q)) ∧ Hid (OwnD wr Z2 (.slice qa n2 qc) p2) ∧ Hid (∀ b, v.ownBlock = some b → b < Z2 ∨ S2 ≤ b) ∧ S2 ≤ wr.heap.size ∧ Ex w wr) (fun _ i _ => n2 - (intOf i).toNat)
        case atStart =>
          refine ⟨0, by omega, rfl, Lib.hid ?_, hown2, Lib.hid (fun b hb => .inl (hb1.out b hb)), by rw [hS2]; exact Nat.le_refl _, (by (try show Ex _ _); repeat (first | (with_reducible exact ex_refl _) | (with_reducible assumption) | (with_reducible refine ex_drewL ?_) | (with_reducible refine ex_appR ?_ _) | (with_reducible refine ex_wx ?_ _) | (with_reducible refine ex_drew ?_) | (with_reducible refine ex_alloc ?_ _)))⟩
          rw [List.take_zero, List.append_nil]
          exact hd0.out
        case round =>
          obtain ⟨q, hq, rfl, hown, ho2, hv, hsr, Kw⟩ := hrel
          by_cases hlt : q < n2
          · have hlt2 : q < p2.length := by have := HN2.out; omega
            obtain ⟨qa2, qc2, he, _, _, _, hsl⟩ := OwnD.slg ho2.out
            rw [HN2.out] at he
            cases he
            obtain ⟨g3, off3, rfl, hg3, hc3⟩ := hsl.pos (by omega)
            have r1 := hc3 q _ (List.getElem?_eq_getElem hlt2)
            have HT2 : Hid (p2.take (q + 1) = p2.take q ++ [p2[q]]) := Lib.hid (List.take_succ_eq_append_getElem hlt2)
            have hsz := ex_size Kw
            have HLN : Hid ((p1 ++ p2.take q).length ≤ 1000) := Lib.hid (by rw [List.length_append, List.length_take]; omega)
            generalize p2[q] = d at r1 HT2
            clear hc3 hlt2 hsl hS2 hd0
            go_wp2_with (at_builtin; refine wpAppAt (r := [d]) _ _ rfl rfl (hown.out.ex (by (try show Ex _ _); repeat (first | (with_reducible exact ex_refl _) | (with_reducible assumption) | (with_reducible refine ex_drewL ?_) | (with_reducible refine ex_appR ?_ _) | (with_reducible refine ex_wx ?_ _) | (with_reducible refine ex_drew ?_) | (with_reducible refine ex_alloc ?_ _)))) rfl rfl rfl (sld_one d (by (try show Ex _ _); repeat (first | (with_reducible exact ex_refl _) | (with_reducible assumption) | (with_reducible refine ex_drewL ?_) | (with_reducible refine ex_appR ?_ _) | (with_reducible refine ex_wx ?_ _) | (with_reducible refine ex_drew ?_) | (with_reducible refine ex_alloc ?_ _))) (by simp [go_sem])) (by have := HLN.out; simp only [List.length_singleton]; omega) (by simp [go_sem] <;> omega) (fun v6 w6 hown6 hg6 hat6 => ?_); obtain ⟨z1, z2, z3, z4⟩ := rp_step Kw hsr hown.out ho2.out hb2.out hv.out hg6 hat6; replace z3 := Lib.hid z3; replace z4 := Lib.hid z4; clear hg6 hat6)
            refine ⟨⟨q + 1, by omega, by go_num, Lib.hid (by rw [HT2.out, ← List.append_assoc]; exact hown6), z3, z4, z2, z1⟩, by simp [intOf]; omega⟩
          · obtain rfl : q = n2 := by omega
            have hfin : p2.take q = p2 := List.take_of_length_le (by have := HN2.out; omega)
            rw [hfin] at hown
            clear hS2
            go_wp2
            go_ret
            exact ⟨_, rfl, hown.out, (by (try show Ex _ _); repeat (first | (with_reducible exact ex_refl _) | (with_reducible assumption) | (with_reducible refine ex_drewL ?_) | (with_reducible refine ex_appR ?_ _) | (with_reducible refine ex_wx ?_ _) | (with_reducible refine ex_drew ?_) | (with_reducible refine ex_alloc ?_ _)))⟩
end Go.Proofs.YtbobamifpjlmiaaDoor
