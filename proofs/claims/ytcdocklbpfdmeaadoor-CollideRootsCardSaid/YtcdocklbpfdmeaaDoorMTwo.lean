import Derived.Test.YtcdocklbpfdmeaaDoorMSeq
import Derived.Test.YtcdocklbpfdmeaaDoorMOct
import Derived.Laws.IdiomStrings
import Derived.Laws.BitsAllLaws

/- A region that draws its order, at one world, where two of what makes may come up in either order. Over whatever program. -/
set_option linter.unusedSimpArgs false
set_option linter.unusedVariables false
set_option maxRecDepth 20000
namespace Go.Proofs.YtcdocklbpfdmeaaDoor
open Go.RowKit
inductive Stp where
  | look (o : Oper)
  | eff (o : Oper)
  | two (o p : Oper)
inductive Ix where
  | look (i : Nat)
  | eff (i : Nat)
  | two (i j : Nat)
section
variable {P : Program} {ops : Array Oper} {Q : Exit → Act → World → Prop} {md : Region.Mode}
def effT (P : Program) (ops : Array Oper) (Q : Exit → Act → World → Prop) (A : World) (o : Oper) (K : Act → World → Prop) (a : Act) (w : World) : Prop :=
  if Region.wanted o (yielded ops a.tmps) then (o.wp P a w (fun a' w' => Ex A w' ∧ K a' w') Q ∨ (o.asks P a w ∧ LetsOut Q)) else K (a.put o.dst undef) w
def wpTwo (P : Program) (ops : Array Oper) (Q : Exit → Act → World → Prop) (A : World) : List Stp → Act → World → Prop
  | [], a, w => Q .normal a w
  | .look o :: r, a, w => if Region.wanted o (yielded ops a.tmps) then o.quiet P a (Ex A) (fun a' => wpTwo P ops Q A r a' w) else wpTwo P ops Q A r (a.put o.dst undef) w
  | .eff o :: r, a, w => effT P ops Q A o (wpTwo P ops Q A r) a w
  | .two o p :: r, a, w => effT P ops Q A o (effT P ops Q A p (wpTwo P ops Q A r)) a w ∧ effT P ops Q A p (effT P ops Q A o (wpTwo P ops Q A r)) a w
theorem wpTwo_look {A : World} {o : Oper} {r : List Stp} {a : Act} {w : World}
    (h : wpQuiet P ops (fun w' => ∃ X, w' = wx A X) (fun a' => wpTwo P ops Q A r a' w) [o] a) : wpTwo P ops Q A (.look o :: r) a w := h
theorem wpTwo_eff {A : World} {o : Oper} {r : List Stp} {a : Act} {w : World} (h : effT P ops Q A o (wpTwo P ops Q A r) a w) : wpTwo P ops Q A (.eff o :: r) a w := h
theorem wpTwo_two {A : World} {o p : Oper} {r : List Stp} {a : Act} {w : World} (h : effT P ops Q A o (effT P ops Q A p (wpTwo P ops Q A r)) a w) (k : effT P ops Q A p (effT P ops Q A o (wpTwo P ops Q A r)) a w) : wpTwo P ops Q A (.two o p :: r) a w := ⟨h, k⟩
theorem wpTwo_nil {A : World} {a : Act} {w : World} (h : Q .normal a w) : wpTwo P ops Q A [] a w := h
theorem effT_T {A : World} {o : Oper} {K : Act → World → Prop} {a : Act} {w : World} (hw : Region.wanted o (yielded ops a.tmps) = true)
    (h : wpList P ops (MixQ Q K A) [{ o with guard := none }] a w) : effT P ops Q A o K a w := by
  unfold effT
  rw [if_pos hw]
  unfold wpList at h
  rw [if_pos (by simp [Region.wanted])] at h
  rcases h with h | ⟨h1, h2⟩
  · exact .inl (mixQ_wp (Oper.wp_mono (fun a' w' h' => h') h))
  · exact .inr ⟨h1, h2⟩
theorem effT_F {A : World} {o : Oper} {K : Act → World → Prop} {a : Act} {w : World} (hw : Region.wanted o (yielded ops a.tmps) = false) (h : K (a.put o.dst undef) w) : effT P ops Q A o K a w := by
  unfold effT
  rw [hw]
  exact h
theorem effT_op {A : World} {i : Nat} {o : Oper} {K : Act → World → Prop} {a : Act} {w : World} (hi : ops[i]? = some o) (hA : Ex A w) (h : effT P ops Q A o K a w) : wpOp P ops Q i (fun a' w' => Ex A w' ∧ K a' w') a w := by
  unfold effT at h
  unfold wpOp
  simp only [hi]
  by_cases hw : Region.wanted o (yielded ops a.tmps) = true
  · rw [if_pos hw] at h ⊢; exact h
  · rw [if_neg hw] at h ⊢; exact ⟨hA, h⟩
def ixOp (ops : Array Oper) : Ix → Option Stp
  | .look i => (ops[i]?).map .look
  | .eff i => (ops[i]?).map .eff
  | .two i j => match ops[i]?, ops[j]? with | some o, some p => some (.two o p) | _, _ => none
def fuelT : List Ix → Nat
  | [] => 0
  | .two _ _ :: r => fuelT r + 1 + 1
  | _ :: r => fuelT r + 1
def twoOk (md : Region.Mode) (ops : Array Oper) : List Ix → Array Bool → Bool
  | [], listed => Region.ready md ops listed == []
  | .look i :: r, listed => (Region.ready md ops listed).contains i && (Region.free md ops listed i && ((ops[i]?).map (fun o => isLook o.op)).getD false) && twoOk md ops r (listed.setIfInBounds i true)
  | .eff i :: r, listed => Region.ready md ops listed == [i] && twoOk md ops r (listed.setIfInBounds i true)
  | .two i j :: r, listed => !(i == j) && Region.ready md ops listed == [i, j] && Region.ready md ops (listed.setIfInBounds i true) == [j] && Region.ready md ops (listed.setIfInBounds j true) == [i] && twoOk md ops r ((listed.setIfInBounds i true).setIfInBounds j true)
theorem wpAnyH_two {A : World} (hsel : Region.noSelect ops = true) (hQ : ∀ c a d v w, Q (.panic c) (a.put d v) w → Q (.panic c) a w) :
    ∀ (l : List Ix) (m : List Stp) (listed : Array Bool) (a : Act) (w : World), l.map (ixOp ops) = m.map some → twoOk md ops l listed = true → Ex A w →
      wpTwo P ops Q A m a w → wpAnyH P md ops Q (Ex A) (fuelT l) listed a w := by
  intro l
  induction l with
  | nil =>
    intro m listed a w hm hB hA h
    cases m with
    | nil => exact wpAnyH_done (by simpa [twoOk] using hB) h _
    | cons x m => cases hm
  | cons x l ih =>
    intro m listed a w hm hB hA h
    cases m with
    | nil => cases hm
    | cons y m =>
      simp only [List.map_cons, List.cons.injEq] at hm
      obtain ⟨hx, hm⟩ := hm
      cases x with
      | look i =>
        simp only [ixOp, Option.map_eq_some_iff] at hx
        obtain ⟨o, ho, rfl⟩ := hx
        simp only [twoOk, Bool.and_eq_true] at hB
        obtain ⟨⟨hr, hf, hl⟩, hB'⟩ := hB
        have hl' : isLook o.op = true := by simpa [ho] using hl
        have hst : ∃ v, YieldsIf P ops (Ex A) o v a ∧ wpTwo P ops Q A m (a.put o.dst v) w := by
          unfold wpTwo at h
          by_cases hw : Region.wanted o (yielded ops a.tmps) = true
          · rw [if_pos hw] at h
            obtain ⟨v, h1, h2⟩ := h
            refine ⟨v, .inl ⟨hw, fun w' hw' => ?_⟩, h2⟩
            have h3 := h1 w' hw'
            unfold Oper.quietAt at h3
            cases hrun : (execOp a.eval o).run P w' with
            | ok x w1 =>
              obtain ⟨u, rfl⟩ := look_value hl' a.eval w' x w1 hrun
              rw [hrun] at h3
              simp only [Oper.quietUpon] at h3
              rw [h3.1, h3.2]
            | halt x w1 => rw [hrun] at h3; exact h3.elim
          · rw [if_neg hw] at h
            exact ⟨undef, .inr ⟨by simpa using hw, rfl⟩, h⟩
        obtain ⟨v, hy, hK⟩ := hst
        exact wpAnyH_take ho hsel hf hr (fun c a w => hQ c a _ _ w) hy hA (ih m _ _ _ hm hB' hA hK)
      | eff i =>
        simp only [ixOp, Option.map_eq_some_iff] at hx
        obtain ⟨o, ho, rfl⟩ := hx
        simp only [twoOk, Bool.and_eq_true, beq_iff_eq] at hB
        obtain ⟨hk, hB'⟩ := hB
        refine wpAnyH_all hk (by simp) fun j hj => ?_
        have hji : j = i := by simpa using hj
        subst hji
        exact wpOp_mono (fun a' w' h' => ⟨h'.1, ih m _ _ _ hm hB' h'.1 h'.2⟩) (effT_op ho hA h)
      | two i j =>
        have hxy : ∃ o p, ops[i]? = some o ∧ ops[j]? = some p ∧ y = .two o p := by
          simp only [ixOp] at hx
          cases ho : ops[i]? with
          | none => rw [ho] at hx; cases hx
          | some o =>
            cases hp : ops[j]? with
            | none => rw [ho, hp] at hx; cases hx
            | some p => rw [ho, hp] at hx; exact ⟨o, p, rfl, rfl, (Option.some.inj hx).symm⟩
        obtain ⟨o, p, ho, hp, rfl⟩ := hxy
        simp only [twoOk, Bool.and_eq_true, beq_iff_eq, Bool.not_eq_true', beq_eq_false_iff_ne] at hB
        obtain ⟨⟨⟨⟨hne, hk⟩, hk1⟩, hk2⟩, hB'⟩ := hB
        have hc : (listed.setIfInBounds j true).setIfInBounds i true = (listed.setIfInBounds i true).setIfInBounds j true := Array.setIfInBounds_comm _ _ (Ne.symm hne)
        refine wpAnyH_all hk (by simp) fun q hq => ?_
        have hq2 : q = i ∨ q = j := by simpa using hq
        rcases hq2 with rfl | rfl
        · refine wpOp_mono (fun a' w' h' => ⟨h'.1, ?_⟩) (effT_op ho hA h.1)
          refine wpAnyH_all hk1 (by simp) fun q2 hq2 => ?_
          have hqj : q2 = j := by simpa using hq2
          subst hqj
          exact wpOp_mono (fun a' w' h'' => ⟨h''.1, ih m _ _ _ hm hB' h''.1 h''.2⟩) (effT_op hp h'.1 h'.2)
        · refine wpOp_mono (fun a' w' h' => ⟨h'.1, ?_⟩) (effT_op hp hA h.2)
          refine wpAnyH_all hk2 (by simp) fun q2 hq2 => ?_
          have hqj : q2 = i := by simpa using hq2
          subst hqj
          exact wpOp_mono (fun a' w' h'' => ⟨h''.1, by rw [hc]; exact ih m _ _ _ hm hB' h''.1 h''.2⟩) (effT_op ho h'.1 h'.2)
def ixStp (l : List Oper) : Ix → Stp
  | .look i => .look (nth l i)
  | .eff i => .eff (nth l i)
  | .two i j => .two (nth l i) (nth l j)
def ixIn (n : Nat) : Ix → Bool
  | .look i => decide (i < n)
  | .eff i => decide (i < n)
  | .two i j => decide (i < n) && decide (j < n)
/-- **One order serves every order**, but for pairs. -/
theorem wp_region_two {id : Nat} {a : Act} {w : World} {l : List Oper} (A : World) (order : List Ix) (hA : Ex A w.drew) (hm : P.follows .mixedOrders = true)
    (hB : (Region.noSelect l.toArray && fuelT order == l.toArray.size && order.all (ixIn l.length) && twoOk .any l.toArray order (Array.replicate l.toArray.size false)) = true)
    (hQ : ∀ c a d v w, Q (.panic c) (a.put d v) w → Q (.panic c) a w)
    (h : wpTwo P l.toArray Q A (order.map (ixStp l)) a w.drew) : (Code.region id l.toArray true).wp P Q a w := by
  simp only [Bool.and_eq_true, beq_iff_eq, List.all_eq_true] at hB
  obtain ⟨⟨⟨hsel, hlen⟩, hall⟩, hseq⟩ := hB
  refine wp_region_held (S := Ex A) hm ?_
  have H := wpAnyH_two (md := .any) (P := P) (A := A) hsel hQ order (order.map (ixStp l)) (Array.replicate l.toArray.size false) a w.drew (by
    rw [List.map_map]
    refine List.map_congr_left fun x hx => ?_
    have hx2 := hall x hx
    cases x with
    | look i => simp only [ixIn, decide_eq_true_eq] at hx2; simp only [ixOp, ixStp, Function.comp, nth_get l i hx2, Option.map_some]
    | eff i => simp only [ixIn, decide_eq_true_eq] at hx2; simp only [ixOp, ixStp, Function.comp, nth_get l i hx2, Option.map_some]
    | two i j => simp only [ixIn, Bool.and_eq_true, decide_eq_true_eq] at hx2; simp only [ixOp, ixStp, Function.comp, nth_get l i hx2.1, nth_get l j hx2.2]) hseq hA h
  rwa [hlen] at H
end
end Go.Proofs.YtcdocklbpfdmeaaDoor

/- What is digested of pairs and digests: both texts. -/
set_option linter.unusedSimpArgs false
set_option linter.unusedVariables false
set_option maxRecDepth 20000
namespace Go.Proofs.YtcdocklbpfdmeaaDoor
open Go.RowKit
theorem and_low (n : Int) : Go.bits .and .u64 (n % 18446744073709551616) 4294967295 = n % 4294967296 := by
  rw [Go.u64_and _ _ (by omega) (by omega) (by decide) (by decide)]
  have : (4294967295 : Int).toNat = 2 ^ 32 - 1 := rfl
  rw [this, Nat.and_two_pow_sub_one_eq_mod]
  omega
theorem str_cells (s : ByteArray) : Lib.strCells s = Lib.byteCells s.data.toList := rfl
theorem wpAppStr {ops : Array Oper} {rest : List Oper} {o : Oper} {a : Act} {w : World} {Q : Exit → Act → World → Prop} (s x : Operand) (hgd : o.guard = none)
    (ho : o.op = .call { callee := .builtin .append, args := #[s, x], argTypes := #[35, 9] })
    {Z : Nat} {v : Value} {n : Nat} {l : List UInt8} (hown : w.ownsRow Z 5 1 v n (Lib.byteCells l)) (hs : a.eval s = v) (st : ByteArray) (hx : a.eval x = .string st) (hlen : n + st.size ≤ 140737488355328) (hZ : Z ≤ w.heap.size)
    (h : ∀ v' w', w'.ownsRow Z 5 1 v' (n + st.size) (Lib.byteCells (l ++ st.data.toList)) → Below Z w w' → wpList Tryd.prog ops Q rest (a.put o.dst v') w') : wpList Tryd.prog ops Q (o :: rest) a w := by
  obtain ⟨i, hi, h1', h2', h3'⟩ := info_parts appu8.hi
  refine Lib.wpList_append_own_string w hgd s x _ _ ho Z 5 i appu8.ht Tryd.underlying9 hi h1' h2' h3' v n _ hs hown st hx (by unfold maxLen; omega) hlen hZ fun v' w' k1 k2 _ => ?_
  rw [str_cells, bytes_app] at k1
  exact h v' w' k1 (below_app hown k2 hZ)
/-- A text, as much as is digested of it. -/
def PostS (W : World) (s : ByteArray) (e : Ending) (w' : World) : Prop := ∃ t : ByteArray, e = .returned (.string t) ∧ t.size = min s.size 65535 ∧ t.data.toList = s.data.toList.take 65535 ∧ ∃ X, w' = wx W X
theorem shortS_any (s : ByteArray) (w : World) : Calls Tryd.prog 136 #[.string s] w (PostS w s) := by
  by_cases h : s.size ≤ 65535
  · have e1 : (s.size : Int) ≤ 65535 := by omega
    go_enter Tryd.func136, Tryd.ntmps136
    go_wp2
    go_ret
    refine ⟨_, rfl, by omega, ?_, (by (try show Ex _ _); repeat (first | (with_reducible exact ex_refl _) | (with_reducible assumption) | (with_reducible refine ex_drewL ?_) | (with_reducible refine ex_appR ?_ _) | (with_reducible refine ex_wx ?_ _) | (with_reducible refine ex_drew ?_) | (with_reducible refine ex_alloc ?_ _)))⟩
    rw [List.take_of_length_le (by rw [Array.length_toList]; exact h)]
  · have e1 : ¬ (s.size : Int) ≤ 65535 := by omega
    have e2 : (65535 : Int) ≤ s.size := by omega
    have e3 : 65535 ≤ s.size := by omega
    have e4 : min (s.size : Int) 65535 = 65535 := by omega
    go_enter Tryd.func136, Tryd.ntmps136
    go_wp2
    go_ret
    refine ⟨_, rfl, ?_, ?_, (by (try show Ex _ _); repeat (first | (with_reducible exact ex_refl _) | (with_reducible assumption) | (with_reducible refine ex_drewL ?_) | (with_reducible refine ex_appR ?_ _) | (with_reducible refine ex_wx ?_ _) | (with_reducible refine ex_drew ?_) | (with_reducible refine ex_alloc ?_ _)))⟩
    · simp; omega
    · simp [ByteArray.data_extract]
theorem str_len (s : ByteArray) : s.data.toList.length = s.size := Array.length_toList
theorem owns_le {w : World} {Z Z' : Nat} {t : TypeId} {s : Nat} {v : Value} {n : Nat} {xs : List Value} (h : w.ownsRow Z t s v n xs) (hz : Z' ≤ Z) : w.ownsRow Z' t s v n xs := by
  refine ⟨h.1, ?_⟩
  rcases h.2 with h | ⟨g, cap, cur, h1, h2, h3⟩
  · exact .inl h
  · exact .inr ⟨g, cap, cur, h1, by omega, h3⟩
theorem some_of {x t : ByteArray} (h1 : t.size = min x.size 65535) (h2 : t.data.toList = x.data.toList.take 65535) : someL x = hiL t.size 2 ++ t.data.toList := by
  unfold someL; rw [h1, h2]
theorem leaf_len (s : ByteArray) : (someL s).length = 2 + min s.size 65535 := by
  unfold someL
  rw [List.length_append, hiL_len, List.length_take, Array.length_toList, Nat.min_comm]
  rfl
abbrev wL (w : World) (x y : ByteArray) : World := (w.alloc (.cells #[.string x, .string y] 42)).alloc (.cells (rowB 32 fun _ => 0) 46)
set_option maxHeartbeats 1000000 in
theorem sleaf_any {w0 : World} (G : Glob w0) (p : Pr) (w : World) (k0 : Ex w0 w) :
    Calls Tryd.prog 105 #[.agg (PC p)] w (Post w (.agg (rowB 32 (dF (leafP p))))) := by
  replace G := G.ex k0
  clear k0
  obtain ⟨x, y⟩ := p
  unfold PC
  go_enter Tryd.func105, Tryd.ntmps105
  go_wp2
  have tok1 : True := trivial
  refine wp_region_mix [(0, true), (1, true), (3, true), (4, true), (2, false), (5, false), (6, true), (7, true)] 8 (by kernel_rfl) (by kernel_rfl) (fun _ _ d _ _ h => by cases d <;> exact h) ?_
  simp only [List.map_cons, List.map_nil, nth, List.drop_succ_cons, List.drop_zero]
  repeat (first | (refine wpMix_look ?_; go_big_quiet_step (fail); refine wpQuiet_nil ?_) | (refine wpMix_eff rfl (fun X1 => ?_); go_wp2_with (first | (go_at_call 136; (with_reducible refine (shortS_any x _).mono ?_); rintro e w2 ⟨s1, rfl, s2, s3, X, rfl⟩) | (go_at_call 136; (with_reducible refine (shortS_any y _).mono ?_); rintro e w2 ⟨t1, rfl, t2, t3, X, rfl⟩)); refine mixQ_mk (by first | exact ex_refl _ | exact ⟨_, rfl⟩ | exact ex_app _ _ _ | (simp only [wx_wx, wx_drew]; first | exact ex_refl _ | exact ex_app _ _ _ | exact ⟨_, rfl⟩) | (repeat (first | exact ex_refl _ | refine ex_drew ?_ | refine ex_alloc ?_ _ | refine ex_wx ?_ _))) ?_))
  refine wpMix_nil (fun X2 => ?_)
  have HX := Lib.hid (some_of s2 s3)
  have HY := Lib.hid (some_of t2 t3)
  have b1 : s1.size ≤ 65535 := by omega
  have b2 : t1.size ≤ 65535 := by omega
  have q1 : (s1.size : Int) % 65536 = s1.size := by omega
  have q2 : (t1.size : Int) % 65536 = t1.size := by omega
  clear s2 s3 t2 t3
  have tok2 : True := trivial
  go_wp2_with (first | (go_at_call 137; have _t := tok2; clear tok2; (refine (put16_any s1.size (by omega) [0] _ _ (by simp) (by simp) (sls_one 0 (by (try show Ex _ _); repeat (first | (with_reducible exact ex_refl _) | (with_reducible assumption) | (with_reducible refine ex_drewL ?_) | (with_reducible refine ex_appR ?_ _) | (with_reducible refine ex_wx ?_ _) | (with_reducible refine ex_drew ?_) | (with_reducible refine ex_alloc ?_ _))) (by simp [go_sem]) (by rfl))).mono ?_); rintro e w2 ⟨v2, rfl, hA0, XA, rfl⟩; have hA := owns_le hA0 (Z' := (wL w x y).heap.size) (by simp [go_sem] <;> omega); clear hA0; (try simp only [wx_wx] at hA)) | (at_builtin; refine wpAppStr _ _ rfl rfl hA rfl s1 rfl (by simp; omega) (by simp [go_sem] <;> omega) (fun v1 w1 hB hbe => ?_); obtain ⟨X5, rfl⟩ := exOf (A := wL w x y) (by (try show Ex _ _); repeat (first | (with_reducible exact ex_refl _) | (with_reducible assumption) | (with_reducible refine ex_drewL ?_) | (with_reducible refine ex_appR ?_ _) | (with_reducible refine ex_wx ?_ _) | (with_reducible refine ex_drew ?_) | (with_reducible refine ex_alloc ?_ _))) hbe; clear hA) | (go_at_call 137; (refine (put16_any t1.size (by omega) _ _ _ (by simp only [List.length_append, hiL_len, str_len, List.length_singleton]; omega) (by simp) (owns_sls hB (by omega))).mono ?_); rintro e w2 ⟨v3, rfl, hC0, XC, rfl⟩; have hC := owns_le hC0 (Z' := (wL w x y).heap.size) (by simp [go_sem] <;> omega); clear hC0 hB; (try simp only [wx_wx] at hC)) | (at_builtin; refine wpAppStr _ _ rfl rfl hC rfl t1 rfl (by simp only [List.length_append, hiL_len, str_len, List.length_singleton]; omega) (by simp [go_sem] <;> omega) (fun v1 w1 hD hbe => ?_); obtain ⟨X6, rfl⟩ := exOf (A := wL w x y) (by (try show Ex _ _); repeat (first | (with_reducible exact ex_refl _) | (with_reducible assumption) | (with_reducible refine ex_drewL ?_) | (with_reducible refine ex_appR ?_ _) | (with_reducible refine ex_wx ?_ _) | (with_reducible refine ex_drew ?_) | (with_reducible refine ex_alloc ?_ _))) hbe; clear hC) | (go_at_call 84; refine (sum_slt G (by (try show Ex _ _); repeat (first | (with_reducible exact ex_refl _) | (with_reducible assumption) | (with_reducible refine ex_drewL ?_) | (with_reducible refine ex_appR ?_ _) | (with_reducible refine ex_wx ?_ _) | (with_reducible refine ex_drew ?_) | (with_reducible refine ex_alloc ?_ _))) (owns_slt hD) (by simp only [List.length_append, hiL_len, str_len, List.length_singleton]; omega)).mono ?_; rintro e w2 ⟨rfl, XE, rfl⟩))
  all_goals first | (exfalso; omega) | exact ret_row (cs := rowB 32 (dF (leafP (x, y)))) Tryd.results105 Tryd.underlying46 rfl info_id rfl (by simp [go_sem]; unfold leafP leafL; rw [HX.out, HY.out]; simp) rfl (post_mk rfl (by (try show Ex _ _); repeat (first | (with_reducible exact ex_refl _) | (with_reducible assumption) | (with_reducible refine ex_drewL ?_) | (with_reducible refine ex_appR ?_ _) | (with_reducible refine ex_wx ?_ _) | (with_reducible refine ex_drew ?_) | (with_reducible refine ex_alloc ?_ _))))
set_option maxHeartbeats 1000000 in
theorem sjoin_any {w0 : World} (G : Glob w0) (a b : Dg) (w : World) (k0 : Ex w0 w) :
    Calls Tryd.prog 103 #[.agg (rowB 32 (dF a)), .agg (rowB 32 (dF b))] w (Post w (.agg (rowB 32 (dF (nodeD a b))))) := by
  replace G := G.ex k0
  clear k0
  go_enter Tryd.func103, Tryd.ntmps103
  go_wp2
  refine wp_region_seqA (w) [(1, true), (3, true), (0, false), (2, false), (4, false), (5, false), (6, false)] (by (try show Ex _ _); repeat (first | (with_reducible exact ex_refl _) | (with_reducible assumption) | (with_reducible refine ex_drewL ?_) | (with_reducible refine ex_appR ?_ _) | (with_reducible refine ex_wx ?_ _) | (with_reducible refine ex_drew ?_) | (with_reducible refine ex_alloc ?_ _))) (by kernel_rfl) (by kernel_rfl) (fun _ _ d _ _ h => by cases d <;> exact h) ?_
  simp only [List.map_cons, List.map_nil, nth]
  repeat (first | ((with_reducible refine wpSeq_look ?_); go_big_quiet_step (fail); (with_reducible refine wpQuiet_nil ?_)) | ((with_reducible refine wpSeq_effF ?_ ?_); (focus rfl); go_simp) | ((with_reducible refine wpSeq_eff ?_ ?_); (focus rfl); (try dsimp only); go_wp2_with (first | (at_builtin; refine wpAppB _ _ rfl rfl hown rfl rfl (sls_dg b (by (try show Ex _ _); repeat (first | (with_reducible exact ex_refl _) | (with_reducible assumption) | (with_reducible refine ex_drewL ?_) | (with_reducible refine ex_appR ?_ _) | (with_reducible refine ex_wx ?_ _) | (with_reducible refine ex_drew ?_) | (with_reducible refine ex_alloc ?_ _))) (by simp [go_sem])) (by simp [bytesD_len]) (by simp [go_sem]) (fun v2 w2 hown2 hbe2 => ?_); obtain ⟨X2, rfl⟩ := exOf (by (try show Ex _ _); repeat (first | (with_reducible exact ex_refl _) | (with_reducible assumption) | (with_reducible refine ex_drewL ?_) | (with_reducible refine ex_appR ?_ _) | (with_reducible refine ex_wx ?_ _) | (with_reducible refine ex_drew ?_) | (with_reducible refine ex_alloc ?_ _))) hbe2) | (at_builtin; refine wpAppB _ _ rfl rfl (owns_one (Z := (w3 w a b).heap.size) 1 (by (try show Ex _ _); repeat (first | (with_reducible exact ex_refl _) | (with_reducible assumption) | (with_reducible refine ex_drewL ?_) | (with_reducible refine ex_appR ?_ _) | (with_reducible refine ex_wx ?_ _) | (with_reducible refine ex_drew ?_) | (with_reducible refine ex_alloc ?_ _))) (by simp [go_sem]) (by rfl) (by simp [go_sem])) rfl rfl (sls_dg a (by (try show Ex _ _); repeat (first | (with_reducible exact ex_refl _) | (with_reducible assumption) | (with_reducible refine ex_drewL ?_) | (with_reducible refine ex_appR ?_ _) | (with_reducible refine ex_wx ?_ _) | (with_reducible refine ex_drew ?_) | (with_reducible refine ex_alloc ?_ _))) (by simp [go_sem])) (by simp [bytesD_len]) (by simp [go_sem]) (fun v1 w1 hown hbe => ?_); obtain ⟨X1, rfl⟩ := exOf (by (try show Ex _ _); repeat (first | (with_reducible exact ex_refl _) | (with_reducible assumption) | (with_reducible refine ex_drewL ?_) | (with_reducible refine ex_appR ?_ _) | (with_reducible refine ex_wx ?_ _) | (with_reducible refine ex_drew ?_) | (with_reducible refine ex_alloc ?_ _))) hbe) | (go_at_call 84; refine (sum_slt G (by (try show Ex _ _); repeat (first | (with_reducible exact ex_refl _) | (with_reducible assumption) | (with_reducible refine ex_drewL ?_) | (with_reducible refine ex_appR ?_ _) | (with_reducible refine ex_wx ?_ _) | (with_reducible refine ex_drew ?_) | (with_reducible refine ex_alloc ?_ _))) (owns_slt hown2) (by simp [bytesD_len])).mono ?_; rintro e w2 ⟨rfl, X, rfl⟩)); refine mixQ_mk (by (try show Ex _ _); repeat (first | (with_reducible exact ex_refl _) | (with_reducible assumption) | (with_reducible refine ex_drewL ?_) | (with_reducible refine ex_appR ?_ _) | (with_reducible refine ex_wx ?_ _) | (with_reducible refine ex_drew ?_) | (with_reducible refine ex_alloc ?_ _))) ?_))
  refine wpSeq_nil ?_
  go_wp2
  all_goals first | (exfalso; omega) | exact ret_row (cs := rowB 32 (dF (nodeD a b))) Tryd.results103 Tryd.underlying46 rfl info_id rfl (by simp [go_sem]; unfold nodeD; simp) rfl (post_mk rfl (by (try show Ex _ _); repeat (first | (with_reducible exact ex_refl _) | (with_reducible assumption) | (with_reducible refine ex_drewL ?_) | (with_reducible refine ex_appR ?_ _) | (with_reducible refine ex_wx ?_ _) | (with_reducible refine ex_drew ?_) | (with_reducible refine ex_alloc ?_ _))))
/-- Bytes, not nil, handed back. -/
def PostL (W : World) (l : List UInt8) (e : Ending) (w' : World) : Prop := ∃ v, e = .returned v ∧ SlS w' v l ∧ ∃ X, w' = wx W X
abbrev wK (w : World) (d : Dg) : World := (w.alloc (.cells (rowB 32 (dF d)) 46)).alloc (.cells (rowB 32 fun _ => 0) 46)
set_option maxHeartbeats 1000000 in
theorem scrown_any {w0 : World} (G : Glob w0) (n : Int) (d : Dg) (w : World) (k0 : Ex w0 w) :
    Calls Tryd.prog 63 #[I n, .agg (rowB 32 (dF d))] w (Post w (.agg (rowB 32 (dF (crownD n d))))) := by
  replace G := G.ex k0
  clear k0
  obtain ⟨m, hm⟩ : ∃ m, (n % 4294967296).toNat = m := ⟨_, rfl⟩
  have hn : n % 4294967296 = (m : Int) := by omega
  have hml : m < 4294967296 := by omega
  obtain ⟨R, hR⟩ : ∃ R, crownD n d = R := ⟨_, rfl⟩
  rw [hR]
  have HR : Hid (sumD ([2] ++ hiL m 4 ++ bytesD d) = R) := Lib.hid (by rw [← hR, ← hm]; rfl)
  clear hm hR
  go_enter Tryd.func63, Tryd.ntmps63
  go_wp2
  refine wp_region_seqA (w) [(1, true), (2, true), (4, true), (0, false), (3, false), (5, false), (6, false), (7, false)] (by (try show Ex _ _); repeat (first | (with_reducible exact ex_refl _) | (with_reducible assumption) | (with_reducible refine ex_drewL ?_) | (with_reducible refine ex_appR ?_ _) | (with_reducible refine ex_wx ?_ _) | (with_reducible refine ex_drew ?_) | (with_reducible refine ex_alloc ?_ _))) (by kernel_rfl) (by kernel_rfl) (fun _ _ d _ _ h => by cases d <;> exact h) ?_
  simp only [List.map_cons, List.map_nil, nth]
  repeat (first | ((with_reducible refine wpSeq_look ?_); go_big_quiet_step (fail); (with_reducible refine wpQuiet_nil ?_)) | ((with_reducible refine wpSeq_effF ?_ ?_); (focus rfl); go_simp) | ((with_reducible refine wpSeq_eff ?_ ?_); (focus rfl); (try dsimp only); go_wp2_with (first | (go_at_call 101; (refine (put32_any m hml [2] _ _ (by simp) (by simp) (sls_one 2 (by (try show Ex _ _); repeat (first | (with_reducible exact ex_refl _) | (with_reducible assumption) | (with_reducible refine ex_drewL ?_) | (with_reducible refine ex_appR ?_ _) | (with_reducible refine ex_wx ?_ _) | (with_reducible refine ex_drew ?_) | (with_reducible refine ex_alloc ?_ _))) (by simp [go_sem]) (by rfl))).mono ?_); rintro e w2 ⟨v2, rfl, hA0, XA, rfl⟩; have hA := owns_le hA0 (Z' := (wK w d).heap.size) (by simp [go_sem] <;> omega); clear hA0; (try simp only [wx_wx, wx_drew] at hA)) | (at_builtin; refine wpAppB _ _ rfl rfl hA rfl rfl (sls_dg d (by (try show Ex _ _); repeat (first | (with_reducible exact ex_refl _) | (with_reducible assumption) | (with_reducible refine ex_drewL ?_) | (with_reducible refine ex_appR ?_ _) | (with_reducible refine ex_wx ?_ _) | (with_reducible refine ex_drew ?_) | (with_reducible refine ex_alloc ?_ _))) (by simp [go_sem])) (by simp [bytesD_len]) (by simp [go_sem] <;> omega) (fun v1 w1 hB hbe => ?_); obtain ⟨X5, rfl⟩ := exOf (A := wK w d) (by (try show Ex _ _); repeat (first | (with_reducible exact ex_refl _) | (with_reducible assumption) | (with_reducible refine ex_drewL ?_) | (with_reducible refine ex_appR ?_ _) | (with_reducible refine ex_wx ?_ _) | (with_reducible refine ex_drew ?_) | (with_reducible refine ex_alloc ?_ _))) hbe; clear hA) | (go_at_call 84; refine (sum_slt G (by (try show Ex _ _); repeat (first | (with_reducible exact ex_refl _) | (with_reducible assumption) | (with_reducible refine ex_drewL ?_) | (with_reducible refine ex_appR ?_ _) | (with_reducible refine ex_wx ?_ _) | (with_reducible refine ex_drew ?_) | (with_reducible refine ex_alloc ?_ _))) (owns_slt hB) (by simp [hiL_len, bytesD_len])).mono ?_; rintro e w2 ⟨rfl, XE, rfl⟩)); refine mixQ_mk (by (try show Ex _ _); repeat (first | (with_reducible exact ex_refl _) | (with_reducible assumption) | (with_reducible refine ex_drewL ?_) | (with_reducible refine ex_appR ?_ _) | (with_reducible refine ex_wx ?_ _) | (with_reducible refine ex_drew ?_) | (with_reducible refine ex_alloc ?_ _))) ?_))
  refine wpSeq_nil ?_
  go_wp2
  all_goals first | (exfalso; omega) | exact ret_row (cs := rowB 32 (dF R)) Tryd.results63 Tryd.underlying46 rfl info_id rfl (by rw [← HR.out]; simp [go_sem]) rfl (post_mk rfl (by (try show Ex _ _); repeat (first | (with_reducible exact ex_refl _) | (with_reducible assumption) | (with_reducible refine ex_drewL ?_) | (with_reducible refine ex_appR ?_ _) | (with_reducible refine ex_wx ?_ _) | (with_reducible refine ex_drew ?_) | (with_reducible refine ex_alloc ?_ _))))
end Go.Proofs.YtcdocklbpfdmeaaDoor

/- Collide: the bytes of a leaf, of two, of a pair, of a crown; equal bytes: both texts. -/
set_option linter.unusedSimpArgs false
set_option linter.unusedVariables false
set_option linter.unnecessarySimpa false
set_option maxRecDepth 20000
namespace Go.Proofs.YtcdocklbpfdmeaaDoor
open Go.RowKit
/-- Bytes of a block of bytes, handed back. -/
def OwnU (w : World) (v : Value) (l : List UInt8) : Prop := w.ownsRow 0 5 1 v l.length (Lib.byteCells l)
theorem ownu_of {w : World} {Z n : Nat} {v : Value} {l : List UInt8} (h : w.ownsRow Z 5 1 v n (Lib.byteCells l)) : OwnU w v l := by
  have hn : l.length = n := by have := h.1; simpa [Lib.byteCells] using this
  subst hn
  exact owns_le h (Nat.zero_le _)
theorem OwnU.slt {w : World} {v : Value} {l : List UInt8} (h : OwnU w v l) : SlT w v l := owns_slt h
theorem OwnU.ex {w w' : World} {v : Value} {l : List UInt8} (h : OwnU w v l) (k : Ex w w') : OwnU w' v l := owns_ex h k
def PostU (W : World) (l : List UInt8) (e : Ending) (w' : World) : Prop := ∃ v, e = .returned v ∧ OwnU w' v l ∧ ∃ X, w' = wx W X
theorem concat3U {W W2 : World} {g : Nat} {t : TypeId} {v0 v1 v2 : Value} {x y z : List UInt8} (k : Ex (W.alloc (.cells #[v0, v1, v2] t)) W2) (hg : g = W.heap.size) (h0 : SlS W2 v0 x) (h1 : SlS W2 v1 y) (h2 : SlS W2 v2 z) (hl : x.length + (y.length + z.length) ≤ 140737488355328) :
    Calls Tryd.prog 145 #[.slice (some ⟨g, 0, none⟩) 3 3] W2 (PostU W2 (x ++ (y ++ z))) := by
  subst hg
  rw [← cat3]
  have hb := ex_block k (heap_alloc_new W (.cells #[v0, v1, v2] t))
  refine (concat_own _ 3 3 (at3 v0 v1 v2) (at3 x y z) _ (by omega) (by decide) ⟨Or.inr ⟨_, 0, rfl, (Array.getElem?_eq_some_iff.1 hb).1, fun i hi => ?_⟩⟩ (fun i hi => ?_) (fun q hq => ?_)).mono fun e w' ⟨v, h1, h2, h3⟩ => ⟨v, h1, ownu_of h2, h3⟩
  · rw [Nat.zero_add, cell_of_row _ W.heap.size i _ _ _ hb]
    have : i = 0 ∨ i = 1 ∨ i = 2 := by omega
    rcases this with rfl | rfl | rfl <;> rfl
  · have : i = 0 ∨ i = 1 ∨ i = 2 := by omega
    rcases this with rfl | rfl | rfl
    · exact h0
    · exact h1
    · exact h2
  · have : q = 0 ∨ q = 1 ∨ q = 2 ∨ q = 3 := by omega
    rcases this with rfl | rfl | rfl | rfl <;> simp [catL, at3, List.range_succ] <;> omega
theorem conv_slt {w : World} {v : Value} {l : List UInt8} (h : SlT w v l) : (convert 35 9 v).run Tryd.prog w = .ok (.string ⟨l.toArray⟩) w := by
  obtain ⟨a, c, rfl, h1, h2, h3, h4⟩ := h.out
  cases a with
  | none =>
    obtain rfl := h3 rfl
    obtain rfl : l = [] := List.eq_nil_of_length_eq_zero (by omega)
    rw [List.length_nil, Lib.run_convert_nil_bytes w _ _ _ 0 Tryd.underlying35 Tryd.underlying5 Tryd.underlying9]
  | some ad =>
    refine run_convert_bytes_back w _ _ _ ad c l Tryd.underlying35 Tryd.underlying5 Tryd.underlying9 fun j hj => ?_
    exact sll_news h4 (ex_refl _) j _ (by simp [Lib.byteCells, List.getElem?_eq_getElem hj])
theorem bytesEq_any {l m : List UInt8} {v u : Value} {w : World} (hs : SlT w v l) (ht : SlT w u m) :
    Calls Tryd.prog 35 #[v, u] w (Post w (.bool (decide (l = m)))) := by
  have c1 := conv_slt hs
  have c2 := conv_slt ht
  have e1 : (l == m) = decide (l = m) := by rw [Bool.eq_iff_iff, beq_iff_eq, decide_eq_true_eq]
  rw [← e1]
  clear hs ht e1
  go_enter Tryd.func35, Tryd.ntmps35
  go_wp2
  go_ret
  exact post_mk rfl (by (try show Ex _ _); repeat (first | (with_reducible exact ex_refl _) | (with_reducible assumption) | (with_reducible refine ex_drewL ?_) | (with_reducible refine ex_appR ?_ _) | (with_reducible refine ex_wx ?_ _) | (with_reducible refine ex_drew ?_) | (with_reducible refine ex_alloc ?_ _)))
theorem sameB_any {l m : List UInt8} {v u : Value} {w : World} (hs : SlT w v l) (ht : SlT w u m) :
    Calls Tryd.prog 71 #[v, u] w (Post w (.bool (decide (l = m)))) := by
  have c1 := conv_slt hs
  have c2 := conv_slt ht
  have e1 : (l == m) = decide (l = m) := by rw [Bool.eq_iff_iff, beq_iff_eq, decide_eq_true_eq]
  rw [← e1]
  clear hs ht e1
  go_enter Tryd.func71, Tryd.ntmps71
  go_wp2
  go_ret
  exact post_mk rfl (by (try show Ex _ _); repeat (first | (with_reducible exact ex_refl _) | (with_reducible assumption) | (with_reducible refine ex_drewL ?_) | (with_reducible refine ex_appR ?_ _) | (with_reducible refine ex_wx ?_ _) | (with_reducible refine ex_drew ?_) | (with_reducible refine ex_alloc ?_ _)))
set_option maxHeartbeats 1000000 in
theorem leafB_any {v : Value} {l : List UInt8} (hl : l.length ≤ 100000) (w : World) (hv : SlT w v l) :
    Calls Tryd.prog 118 #[v] w (PostU w (0 :: l)) := by
  obtain ⟨a, c, rfl, h1, h2, h3, h4⟩ := hv.out
  cases a with
  | none =>
    obtain rfl := h3 rfl
    obtain rfl : l = [] := List.eq_nil_of_length_eq_zero (by omega)
    rw [List.length_nil]
    go_enter Tryd.func118, Tryd.ntmps118
    go_wp2
    go_ret
    exact ⟨_, rfl, ownu_of (owns_one (Z := w.heap.size) 0 (by (try show Ex _ _); repeat (first | (with_reducible exact ex_refl _) | (with_reducible assumption) | (with_reducible refine ex_drewL ?_) | (with_reducible refine ex_appR ?_ _) | (with_reducible refine ex_wx ?_ _) | (with_reducible refine ex_drew ?_) | (with_reducible refine ex_alloc ?_ _))) (by simp [go_sem]) (by rfl) (by simp [go_sem])), (by (try show Ex _ _); repeat (first | (with_reducible exact ex_refl _) | (with_reducible assumption) | (with_reducible refine ex_drewL ?_) | (with_reducible refine ex_appR ?_ _) | (with_reducible refine ex_wx ?_ _) | (with_reducible refine ex_drew ?_) | (with_reducible refine ex_alloc ?_ _)))⟩
  | some ad =>
    have hs : SlS w (.slice (some ad) l.length c) l := ⟨_, _, rfl, h1, h2, h4⟩
    clear hv h4 h3
    go_enter Tryd.func118, Tryd.ntmps118
    go_wp2_with (at_builtin; refine wpAppB _ _ rfl rfl (owns_one (Z := w.heap.size) 0 (by (try show Ex _ _); repeat (first | (with_reducible exact ex_refl _) | (with_reducible assumption) | (with_reducible refine ex_drewL ?_) | (with_reducible refine ex_appR ?_ _) | (with_reducible refine ex_wx ?_ _) | (with_reducible refine ex_drew ?_) | (with_reducible refine ex_alloc ?_ _))) (by simp [go_sem]) (by rfl) (by simp [go_sem])) rfl rfl (hs.ex (by (try show Ex _ _); repeat (first | (with_reducible exact ex_refl _) | (with_reducible assumption) | (with_reducible refine ex_drewL ?_) | (with_reducible refine ex_appR ?_ _) | (with_reducible refine ex_wx ?_ _) | (with_reducible refine ex_drew ?_) | (with_reducible refine ex_alloc ?_ _)))) (by omega) (by simp [go_sem]) (fun v1 w1 hown hbe => ?_); obtain ⟨X1, rfl⟩ := exOf (A := w) (by (try show Ex _ _); repeat (first | (with_reducible exact ex_refl _) | (with_reducible assumption) | (with_reducible refine ex_drewL ?_) | (with_reducible refine ex_appR ?_ _) | (with_reducible refine ex_wx ?_ _) | (with_reducible refine ex_drew ?_) | (with_reducible refine ex_alloc ?_ _))) hbe)
    go_ret
    exact ⟨_, rfl, ownu_of hown, (by (try show Ex _ _); repeat (first | (with_reducible exact ex_refl _) | (with_reducible assumption) | (with_reducible refine ex_drewL ?_) | (with_reducible refine ex_appR ?_ _) | (with_reducible refine ex_wx ?_ _) | (with_reducible refine ex_drew ?_) | (with_reducible refine ex_alloc ?_ _)))⟩
set_option maxHeartbeats 1000000 in
theorem refleafB_any {v : Value} {l : List UInt8} (hl : l.length ≤ 100000) (w : World) (hv : SlT w v l) :
    Calls Tryd.prog 79 #[v] w (PostU w (0 :: l)) := by
  obtain ⟨a, c, rfl, h1, h2, h3, h4⟩ := hv.out
  cases a with
  | none =>
    obtain rfl := h3 rfl
    obtain rfl : l = [] := List.eq_nil_of_length_eq_zero (by omega)
    rw [List.length_nil]
    go_enter Tryd.func79, Tryd.ntmps79
    go_wp2
    go_ret
    exact ⟨_, rfl, ownu_of (owns_one (Z := w.heap.size) 0 (by (try show Ex _ _); repeat (first | (with_reducible exact ex_refl _) | (with_reducible assumption) | (with_reducible refine ex_drewL ?_) | (with_reducible refine ex_appR ?_ _) | (with_reducible refine ex_wx ?_ _) | (with_reducible refine ex_drew ?_) | (with_reducible refine ex_alloc ?_ _))) (by simp [go_sem]) (by rfl) (by simp [go_sem])), (by (try show Ex _ _); repeat (first | (with_reducible exact ex_refl _) | (with_reducible assumption) | (with_reducible refine ex_drewL ?_) | (with_reducible refine ex_appR ?_ _) | (with_reducible refine ex_wx ?_ _) | (with_reducible refine ex_drew ?_) | (with_reducible refine ex_alloc ?_ _)))⟩
  | some ad =>
    have hs : SlS w (.slice (some ad) l.length c) l := ⟨_, _, rfl, h1, h2, h4⟩
    clear hv h4 h3
    go_enter Tryd.func79, Tryd.ntmps79
    go_wp2_with (at_builtin; refine wpAppB _ _ rfl rfl (owns_one (Z := w.heap.size) 0 (by (try show Ex _ _); repeat (first | (with_reducible exact ex_refl _) | (with_reducible assumption) | (with_reducible refine ex_drewL ?_) | (with_reducible refine ex_appR ?_ _) | (with_reducible refine ex_wx ?_ _) | (with_reducible refine ex_drew ?_) | (with_reducible refine ex_alloc ?_ _))) (by simp [go_sem]) (by rfl) (by simp [go_sem])) rfl rfl (hs.ex (by (try show Ex _ _); repeat (first | (with_reducible exact ex_refl _) | (with_reducible assumption) | (with_reducible refine ex_drewL ?_) | (with_reducible refine ex_appR ?_ _) | (with_reducible refine ex_wx ?_ _) | (with_reducible refine ex_drew ?_) | (with_reducible refine ex_alloc ?_ _)))) (by omega) (by simp [go_sem]) (fun v1 w1 hown hbe => ?_); obtain ⟨X1, rfl⟩ := exOf (A := w) (by (try show Ex _ _); repeat (first | (with_reducible exact ex_refl _) | (with_reducible assumption) | (with_reducible refine ex_drewL ?_) | (with_reducible refine ex_appR ?_ _) | (with_reducible refine ex_wx ?_ _) | (with_reducible refine ex_drew ?_) | (with_reducible refine ex_alloc ?_ _))) hbe)
    go_ret
    exact ⟨_, rfl, ownu_of hown, (by (try show Ex _ _); repeat (first | (with_reducible exact ex_refl _) | (with_reducible assumption) | (with_reducible refine ex_drewL ?_) | (with_reducible refine ex_appR ?_ _) | (with_reducible refine ex_wx ?_ _) | (with_reducible refine ex_drew ?_) | (with_reducible refine ex_alloc ?_ _)))⟩
set_option maxHeartbeats 1000000 in
theorem two_any (a b : Dg) (w : World) :
    Calls Tryd.prog 134 #[.agg (rowB 32 (dF a)), .agg (rowB 32 (dF b))] w (PostU w (twoL a b)) := by
  go_enter Tryd.func134, Tryd.ntmps134
  go_wp2
  refine wp_region_mix [(1, true), (2, true), (0, false), (3, false), (4, false), (5, true)] 6 (by kernel_rfl) (by kernel_rfl) (fun _ _ d _ _ h => by cases d <;> exact h) ?_
  simp only [List.map_cons, List.map_nil, nth, List.drop_succ_cons, List.drop_zero]
  repeat (first | (refine wpMix_look ?_; go_big_quiet_step (fail); refine wpQuiet_nil ?_) | (refine wpMix_eff rfl (fun X1 => ?_); go_wp2_with (first | (go_at_call 145; refine (concat3U (by (try show Ex _ _); repeat (first | (with_reducible exact ex_refl _) | (with_reducible assumption) | (with_reducible refine ex_drewL ?_) | (with_reducible refine ex_appR ?_ _) | (with_reducible refine ex_wx ?_ _) | (with_reducible refine ex_drew ?_) | (with_reducible refine ex_alloc ?_ _))) (by simp [go_sem]) (sls_one 1 (by (try show Ex _ _); repeat (first | (with_reducible exact ex_refl _) | (with_reducible assumption) | (with_reducible refine ex_drewL ?_) | (with_reducible refine ex_appR ?_ _) | (with_reducible refine ex_wx ?_ _) | (with_reducible refine ex_drew ?_) | (with_reducible refine ex_alloc ?_ _))) (by simp [go_sem]) (by rfl)) (sls_dg a (by (try show Ex _ _); repeat (first | (with_reducible exact ex_refl _) | (with_reducible assumption) | (with_reducible refine ex_drewL ?_) | (with_reducible refine ex_appR ?_ _) | (with_reducible refine ex_wx ?_ _) | (with_reducible refine ex_drew ?_) | (with_reducible refine ex_alloc ?_ _))) (by simp [go_sem])) (sls_dg b (by (try show Ex _ _); repeat (first | (with_reducible exact ex_refl _) | (with_reducible assumption) | (with_reducible refine ex_drewL ?_) | (with_reducible refine ex_appR ?_ _) | (with_reducible refine ex_wx ?_ _) | (with_reducible refine ex_drew ?_) | (with_reducible refine ex_alloc ?_ _))) (by simp [go_sem])) (by simp [bytesD_len])).mono ?_; rintro e w2 ⟨v, rfl, hsl, X, rfl⟩; (try simp only [wx_wx] at hsl))); refine mixQ_mk (by first | exact ex_refl _ | exact ⟨_, rfl⟩ | exact ex_app _ _ _ | (simp only [wx_wx, wx_drew]; first | exact ex_refl _ | exact ex_app _ _ _ | exact ⟨_, rfl⟩) | (repeat (first | exact ex_refl _ | refine ex_drew ?_ | refine ex_alloc ?_ _ | refine ex_wx ?_ _))) ?_))
  refine wpMix_nil (fun X2 => ?_)
  go_wp2
  go_ret
  exact ⟨_, rfl, hsl.ex (by (try show Ex _ _); repeat (first | (with_reducible exact ex_refl _) | (with_reducible assumption) | (with_reducible refine ex_drewL ?_) | (with_reducible refine ex_appR ?_ _) | (with_reducible refine ex_wx ?_ _) | (with_reducible refine ex_drew ?_) | (with_reducible refine ex_alloc ?_ _))), (by (try show Ex _ _); repeat (first | (with_reducible exact ex_refl _) | (with_reducible assumption) | (with_reducible refine ex_drewL ?_) | (with_reducible refine ex_appR ?_ _) | (with_reducible refine ex_wx ?_ _) | (with_reducible refine ex_drew ?_) | (with_reducible refine ex_alloc ?_ _)))⟩
set_option maxHeartbeats 1000000 in
theorem reftwo_any (a b : Dg) (w : World) :
    Calls Tryd.prog 81 #[.agg (rowB 32 (dF a)), .agg (rowB 32 (dF b))] w (PostU w (twoL a b)) := by
  go_enter Tryd.func81, Tryd.ntmps81
  go_wp2
  refine wp_region_seqA (w) [(1, true), (3, true), (0, false), (2, false), (4, false), (5, true)] (by (try show Ex _ _); repeat (first | (with_reducible exact ex_refl _) | (with_reducible assumption) | (with_reducible refine ex_drewL ?_) | (with_reducible refine ex_appR ?_ _) | (with_reducible refine ex_wx ?_ _) | (with_reducible refine ex_drew ?_) | (with_reducible refine ex_alloc ?_ _))) (by kernel_rfl) (by kernel_rfl) (fun _ _ d _ _ h => by cases d <;> exact h) ?_
  simp only [List.map_cons, List.map_nil, nth]
  repeat (first | ((with_reducible refine wpSeq_look ?_); go_big_quiet_step (fail); (with_reducible refine wpQuiet_nil ?_)) | ((with_reducible refine wpSeq_effF ?_ ?_); (focus rfl); go_simp) | ((with_reducible refine wpSeq_eff ?_ ?_); (focus rfl); (try dsimp only); go_wp2_with (first | (at_builtin; refine wpAppB _ _ rfl rfl hown rfl rfl (sls_dg b (by (try show Ex _ _); repeat (first | (with_reducible exact ex_refl _) | (with_reducible assumption) | (with_reducible refine ex_drewL ?_) | (with_reducible refine ex_appR ?_ _) | (with_reducible refine ex_wx ?_ _) | (with_reducible refine ex_drew ?_) | (with_reducible refine ex_alloc ?_ _))) (by simp [go_sem])) (by simp [bytesD_len]) (by simp [go_sem]) (fun v2 w2 hown2 hbe2 => ?_); obtain ⟨X2, rfl⟩ := exOf (by (try show Ex _ _); repeat (first | (with_reducible exact ex_refl _) | (with_reducible assumption) | (with_reducible refine ex_drewL ?_) | (with_reducible refine ex_appR ?_ _) | (with_reducible refine ex_wx ?_ _) | (with_reducible refine ex_drew ?_) | (with_reducible refine ex_alloc ?_ _))) hbe2) | (at_builtin; refine wpAppB _ _ rfl rfl (owns_one (Z := ((w.alloc (.cells (rowB 32 (dF a)) 46)).alloc (.cells (rowB 32 (dF b)) 46)).heap.size) 1 (by (try show Ex _ _); repeat (first | (with_reducible exact ex_refl _) | (with_reducible assumption) | (with_reducible refine ex_drewL ?_) | (with_reducible refine ex_appR ?_ _) | (with_reducible refine ex_wx ?_ _) | (with_reducible refine ex_drew ?_) | (with_reducible refine ex_alloc ?_ _))) (by simp [go_sem]) (by rfl) (by simp [go_sem])) rfl rfl (sls_dg a (by (try show Ex _ _); repeat (first | (with_reducible exact ex_refl _) | (with_reducible assumption) | (with_reducible refine ex_drewL ?_) | (with_reducible refine ex_appR ?_ _) | (with_reducible refine ex_wx ?_ _) | (with_reducible refine ex_drew ?_) | (with_reducible refine ex_alloc ?_ _))) (by simp [go_sem])) (by simp [bytesD_len]) (by simp [go_sem]) (fun v1 w1 hown hbe => ?_); obtain ⟨X1, rfl⟩ := exOf (by (try show Ex _ _); repeat (first | (with_reducible exact ex_refl _) | (with_reducible assumption) | (with_reducible refine ex_drewL ?_) | (with_reducible refine ex_appR ?_ _) | (with_reducible refine ex_wx ?_ _) | (with_reducible refine ex_drew ?_) | (with_reducible refine ex_alloc ?_ _))) hbe)); refine mixQ_mk (by (try show Ex _ _); repeat (first | (with_reducible exact ex_refl _) | (with_reducible assumption) | (with_reducible refine ex_drewL ?_) | (with_reducible refine ex_appR ?_ _) | (with_reducible refine ex_wx ?_ _) | (with_reducible refine ex_drew ?_) | (with_reducible refine ex_alloc ?_ _))) ?_))
  refine wpSeq_nil ?_
  go_wp2
  go_ret
  refine ⟨_, rfl, ?_, (by (try show Ex _ _); repeat (first | (with_reducible exact ex_refl _) | (with_reducible assumption) | (with_reducible refine ex_drewL ?_) | (with_reducible refine ex_appR ?_ _) | (with_reducible refine ex_wx ?_ _) | (with_reducible refine ex_drew ?_) | (with_reducible refine ex_alloc ?_ _)))⟩
  have := ownu_of hown2
  unfold twoL
  simpa using OwnU.ex this (by (try show Ex _ _); repeat (first | (with_reducible exact ex_refl _) | (with_reducible assumption) | (with_reducible refine ex_drewL ?_) | (with_reducible refine ex_appR ?_ _) | (with_reducible refine ex_wx ?_ _) | (with_reducible refine ex_drew ?_) | (with_reducible refine ex_alloc ?_ _)))
abbrev wKc (w : World) (d : Dg) : World := w.alloc (.cells (rowB 32 (dF d)) 46)
def crownL (m : Nat) (d : Dg) : List UInt8 := [2] ++ hiL m 4 ++ bytesD d
set_option maxHeartbeats 1000000 in
theorem crownB_any (m : Nat) (hm : m ≤ 1000000) (d : Dg) (w : World) :
    Calls Tryd.prog 77 #[I m, .agg (rowB 32 (dF d))] w (PostU w (crownL m d)) := by
  have hn : (m : Int) % 4294967296 = (m : Int) := by omega
  have hml : m < 4294967296 := by omega
  go_enter Tryd.func77, Tryd.ntmps77
  go_wp2
  refine wp_region_seqA (w) [(1, true), (2, true), (4, true), (0, false), (3, false), (5, false), (6, true)] (by (try show Ex _ _); repeat (first | (with_reducible exact ex_refl _) | (with_reducible assumption) | (with_reducible refine ex_drewL ?_) | (with_reducible refine ex_appR ?_ _) | (with_reducible refine ex_wx ?_ _) | (with_reducible refine ex_drew ?_) | (with_reducible refine ex_alloc ?_ _))) (by kernel_rfl) (by kernel_rfl) (fun _ _ d _ _ h => by cases d <;> exact h) ?_
  simp only [List.map_cons, List.map_nil, nth]
  repeat (first | ((with_reducible refine wpSeq_look ?_); go_big_quiet_step (fail); (with_reducible refine wpQuiet_nil ?_)) | ((with_reducible refine wpSeq_effF ?_ ?_); (focus rfl); go_simp) | ((with_reducible refine wpSeq_eff ?_ ?_); (focus rfl); (try dsimp only); go_wp2_with (first | (go_at_call 101; (refine (put32_any m hml [2] _ _ (by simp) (by simp) (sls_one 2 (by (try show Ex _ _); repeat (first | (with_reducible exact ex_refl _) | (with_reducible assumption) | (with_reducible refine ex_drewL ?_) | (with_reducible refine ex_appR ?_ _) | (with_reducible refine ex_wx ?_ _) | (with_reducible refine ex_drew ?_) | (with_reducible refine ex_alloc ?_ _))) (by simp [go_sem]) (by rfl))).mono ?_); rintro e w2 ⟨v2, rfl, hA0, XA, rfl⟩; have hA := owns_le hA0 (Z' := (wKc w d).heap.size) (by simp [go_sem] <;> omega); clear hA0; (try simp only [wx_wx, wx_drew] at hA)) | (at_builtin; refine wpAppB _ _ rfl rfl hA rfl rfl (sls_dg d (by (try show Ex _ _); repeat (first | (with_reducible exact ex_refl _) | (with_reducible assumption) | (with_reducible refine ex_drewL ?_) | (with_reducible refine ex_appR ?_ _) | (with_reducible refine ex_wx ?_ _) | (with_reducible refine ex_drew ?_) | (with_reducible refine ex_alloc ?_ _))) (by simp [go_sem])) (by simp [bytesD_len]) (by simp [go_sem] <;> omega) (fun v1 w1 hB hbe => ?_); obtain ⟨X5, rfl⟩ := exOf (A := wKc w d) (by (try show Ex _ _); repeat (first | (with_reducible exact ex_refl _) | (with_reducible assumption) | (with_reducible refine ex_drewL ?_) | (with_reducible refine ex_appR ?_ _) | (with_reducible refine ex_wx ?_ _) | (with_reducible refine ex_drew ?_) | (with_reducible refine ex_alloc ?_ _))) hbe; clear hA)); refine mixQ_mk (by (try show Ex _ _); repeat (first | (with_reducible exact ex_refl _) | (with_reducible assumption) | (with_reducible refine ex_drewL ?_) | (with_reducible refine ex_appR ?_ _) | (with_reducible refine ex_wx ?_ _) | (with_reducible refine ex_drew ?_) | (with_reducible refine ex_alloc ?_ _))) ?_))
  refine wpSeq_nil ?_
  go_wp2
  go_ret
  refine ⟨_, rfl, ?_, (by (try show Ex _ _); repeat (first | (with_reducible exact ex_refl _) | (with_reducible assumption) | (with_reducible refine ex_drewL ?_) | (with_reducible refine ex_appR ?_ _) | (with_reducible refine ex_wx ?_ _) | (with_reducible refine ex_drew ?_) | (with_reducible refine ex_alloc ?_ _)))⟩
  have := ownu_of hB
  unfold crownL
  simpa using OwnU.ex this (by (try show Ex _ _); repeat (first | (with_reducible exact ex_refl _) | (with_reducible assumption) | (with_reducible refine ex_drewL ?_) | (with_reducible refine ex_appR ?_ _) | (with_reducible refine ex_wx ?_ _) | (with_reducible refine ex_drew ?_) | (with_reducible refine ex_alloc ?_ _)))
end Go.Proofs.YtcdocklbpfdmeaaDoor

/- Collide: the bytes of a pair: both texts; the document's crown. -/
set_option linter.unusedSimpArgs false
set_option linter.unusedVariables false
set_option linter.unnecessarySimpa false
set_option maxRecDepth 20000
namespace Go.Proofs.YtcdocklbpfdmeaaDoor
open Go.RowKit
/-- A pair that can be told whole. -/
def FitP (p : Pr) : Prop := p.1.size ≤ 65535 ∧ p.2.size ≤ 65535
theorem someL_fit {s : ByteArray} (h : s.size ≤ 65535) : someL s = hiL s.size 2 ++ s.data.toList := by
  unfold someL
  rw [Nat.min_eq_left h, List.take_of_length_le (by rw [str_len]; exact h)]
abbrev wCb (w : World) (x y : ByteArray) : World := w.alloc (.cells #[.string x, .string y] 42)
set_option maxHeartbeats 1000000 in
theorem cellB_any (p : Pr) (hp : FitP p) (w : World) :
    Calls Tryd.prog 120 #[.agg (PC p)] w (PostU w (leafL p)) := by
  obtain ⟨x, y⟩ := p
  obtain ⟨b1, b2⟩ : x.size ≤ 65535 ∧ y.size ≤ 65535 := hp
  have HX := Lib.hid (someL_fit b1)
  have HY := Lib.hid (someL_fit b2)
  unfold PC
  have q1 : (x.size : Int) % 65536 = x.size := by omega
  have q2 : (y.size : Int) % 65536 = y.size := by omega
  have tok2 : True := trivial
  go_enter Tryd.func120, Tryd.ntmps120
  go_wp2_with (go_at_call 137; have _t := tok2; clear tok2; (refine (put16_any x.size (by omega) [0] _ _ (by simp) (by simp) (sls_one 0 (by (try show Ex _ _); repeat (first | (with_reducible exact ex_refl _) | (with_reducible assumption) | (with_reducible refine ex_drewL ?_) | (with_reducible refine ex_appR ?_ _) | (with_reducible refine ex_wx ?_ _) | (with_reducible refine ex_drew ?_) | (with_reducible refine ex_alloc ?_ _))) (by simp [go_sem]) (by rfl))).mono ?_); rintro e w2 ⟨v2, rfl, hA0, XA, rfl⟩; have hA := owns_le hA0 (Z' := (wCb w x y).heap.size) (by simp [go_sem] <;> omega); clear hA0; (try simp only [wx_wx] at hA))
  refine wp_region_seqA (wCb w x y) [(0, true), (1, true), (2, true), (4, true), (5, true), (6, true), (7, true), (3, false), (8, false), (9, true)] (by (try show Ex _ _); repeat (first | (with_reducible exact ex_refl _) | (with_reducible assumption) | (with_reducible refine ex_drewL ?_) | (with_reducible refine ex_appR ?_ _) | (with_reducible refine ex_wx ?_ _) | (with_reducible refine ex_drew ?_) | (with_reducible refine ex_alloc ?_ _))) (by kernel_rfl) (by kernel_rfl) (fun _ _ d _ _ h => by cases d <;> exact h) ?_
  simp only [List.map_cons, List.map_nil, nth]
  repeat (first | ((with_reducible refine wpSeq_look ?_); go_big_quiet_step (fail); (with_reducible refine wpQuiet_nil ?_)) | ((with_reducible refine wpSeq_effF ?_ ?_); (focus rfl); go_simp) | ((with_reducible refine wpSeq_eff ?_ ?_); (focus rfl); (try dsimp only); go_wp2_with (first | (at_builtin; refine wpAppStr _ _ rfl rfl hA rfl x rfl (by simp; omega) (by simp [go_sem] <;> omega) (fun v1 w1 hB hbe => ?_); obtain ⟨X5, rfl⟩ := exOf (A := wCb w x y) (by (try show Ex _ _); repeat (first | (with_reducible exact ex_refl _) | (with_reducible assumption) | (with_reducible refine ex_drewL ?_) | (with_reducible refine ex_appR ?_ _) | (with_reducible refine ex_wx ?_ _) | (with_reducible refine ex_drew ?_) | (with_reducible refine ex_alloc ?_ _))) hbe; clear hA) | (go_at_call 137; (refine (put16_any y.size (by omega) _ _ _ (by simp only [List.length_append, hiL_len, str_len, List.length_singleton]; omega) (by simp) ((owns_sls hB (by omega)).ex (by (try show Ex _ _); repeat (first | (with_reducible exact ex_refl _) | (with_reducible assumption) | (with_reducible refine ex_drewL ?_) | (with_reducible refine ex_appR ?_ _) | (with_reducible refine ex_wx ?_ _) | (with_reducible refine ex_drew ?_) | (with_reducible refine ex_alloc ?_ _))))).mono ?_); rintro e w2 ⟨v3, rfl, hC0, XC, rfl⟩; have hC := owns_le hC0 (Z' := (wCb w x y).heap.size) (by simp [go_sem] <;> omega); clear hC0 hB; (try simp only [wx_wx, wx_drew] at hC))); refine mixQ_mk (by (try show Ex _ _); repeat (first | (with_reducible exact ex_refl _) | (with_reducible assumption) | (with_reducible refine ex_drewL ?_) | (with_reducible refine ex_appR ?_ _) | (with_reducible refine ex_wx ?_ _) | (with_reducible refine ex_drew ?_) | (with_reducible refine ex_alloc ?_ _))) ?_))
  refine wpSeq_nil ?_
  go_wp2_with (at_builtin; refine wpAppStr _ _ rfl rfl hC rfl y rfl (by simp only [List.length_append, hiL_len, str_len, List.length_singleton]; omega) (by simp [go_sem] <;> omega) (fun v1 w1 hD hbe => ?_); obtain ⟨X6, rfl⟩ := exOf (A := wCb w x y) (by (try show Ex _ _); repeat (first | (with_reducible exact ex_refl _) | (with_reducible assumption) | (with_reducible refine ex_drewL ?_) | (with_reducible refine ex_appR ?_ _) | (with_reducible refine ex_wx ?_ _) | (with_reducible refine ex_drew ?_) | (with_reducible refine ex_alloc ?_ _))) hbe; clear hC)
  go_ret
  refine ⟨_, rfl, ?_, (by (try show Ex _ _); repeat (first | (with_reducible exact ex_refl _) | (with_reducible assumption) | (with_reducible refine ex_drewL ?_) | (with_reducible refine ex_appR ?_ _) | (with_reducible refine ex_wx ?_ _) | (with_reducible refine ex_drew ?_) | (with_reducible refine ex_alloc ?_ _)))⟩
  have := ownu_of hD
  unfold leafL
  rw [HX.out, HY.out]
  simpa using OwnU.ex this (by (try show Ex _ _); repeat (first | (with_reducible exact ex_refl _) | (with_reducible assumption) | (with_reducible refine ex_drewL ?_) | (with_reducible refine ex_appR ?_ _) | (with_reducible refine ex_wx ?_ _) | (with_reducible refine ex_drew ?_) | (with_reducible refine ex_alloc ?_ _)))
theorem byte_hi (n : Nat) (j : Nat) : (((n : Int) / 256 ^ j) % 256) = bn (UInt8.ofNat (n / 256 ^ j)) := by
  unfold bn
  rw [UInt8.toNat_ofNat']
  have h : ((n : Int) / 256 ^ j) = ((n / 256 ^ j : Nat) : Int) := by push_cast; rfl
  rw [h]; omega
theorem sls_lit {w w' : World} {g : Nat} {cs : List Value} {l : List UInt8} {t : TypeId} (k : Ex (w.alloc (.cells cs.toArray t)) w') (hg : g = w.heap.size) (hl : cs = l.map B) (hm : l.length ≤ 1000) :
    SlS w' (.slice (some ⟨g, 0, none⟩) l.length l.length) l := by
  subst hg hl
  refine ⟨_, l.length, rfl, Nat.le_refl _, by unfold maxLen; omega, SlL.ex (sll_block (heap_alloc_new _ _) fun j hj => ?_) k⟩
  rw [List.getElem?_toArray, List.getElem?_map]
  unfold gF
  rw [List.getD_eq_getElem?_getD, List.getElem?_eq_getElem hj]; rfl
theorem owns_lit {w w2 : World} {Z : Nat} {v : Value} {cs : List Value} {l : List UInt8} (k : Ex (w.alloc (.cells cs.toArray 5)) w2) (hv : v = .slice (some ⟨w.heap.size, 0, none⟩) l.length l.length) (hl : cs = l.map B) (hm : l.length ≤ 1000) (hZ : Z ≤ w.heap.size) :
    w2.ownsRow Z 5 1 v l.length (Lib.byteCells l) := by
  subst hl hv
  exact owns_ex (owns_new rfl hZ (Nat.le_refl _) (by unfold maxLen; omega) (by simp) (by rw [Nat.mul_one, List.take_of_length_le (by simp)]; rfl)) k
set_option maxHeartbeats 1000000 in
theorem refcrownB_any (m : Nat) (hm : m ≤ 1000000) (d : Dg) (w : World) :
    Calls Tryd.prog 82 #[I m, .agg (rowB 32 (dF d))] w (PostU w (crownL m d)) := by
  have h1 : (m : Int) / 16777216 = bn (UInt8.ofNat (m / 256 ^ 3)) := by rw [← byte_hi m 3]; omega
  have h2 : (m : Int) / 65536 = bn (UInt8.ofNat (m / 256 ^ 2)) := by rw [← byte_hi m 2]; omega
  have h3 : (m : Int) / 256 % 256 = bn (UInt8.ofNat (m / 256 ^ 1)) := byte_hi m 1
  have h4 : (m : Int) % 256 = bn (UInt8.ofNat (m / 256 ^ 0)) := by have := byte_hi m 0; simpa using this
  have HL : Hid ([2] ++ hiL m 4 = [2, UInt8.ofNat (m / 256 ^ 3), UInt8.ofNat (m / 256 ^ 2), UInt8.ofNat (m / 256 ^ 1), UInt8.ofNat (m / 256 ^ 0)]) := Lib.hid rfl
  unfold crownL
  rw [HL.out]
  generalize UInt8.ofNat (m / 256 ^ 3) = b3 at *
  generalize UInt8.ofNat (m / 256 ^ 2) = b2 at *
  generalize UInt8.ofNat (m / 256 ^ 1) = b1 at *
  generalize UInt8.ofNat (m / 256 ^ 0) = b0 at *
  go_enter Tryd.func82, Tryd.ntmps82
  go_wp2_with (at_builtin; refine wpAppB _ _ rfl rfl (owns_lit (Z := (wKc w d).heap.size) (l := [2, b3, b2, b1, b0]) (by (try show Ex _ _); repeat (first | (with_reducible exact ex_refl _) | (with_reducible assumption) | (with_reducible refine ex_drewL ?_) | (with_reducible refine ex_appR ?_ _) | (with_reducible refine ex_wx ?_ _) | (with_reducible refine ex_drew ?_) | (with_reducible refine ex_alloc ?_ _))) (by simp [go_sem]) (by rfl) (by simp) (by simp [go_sem])) rfl rfl (sls_dg d (by (try show Ex _ _); repeat (first | (with_reducible exact ex_refl _) | (with_reducible assumption) | (with_reducible refine ex_drewL ?_) | (with_reducible refine ex_appR ?_ _) | (with_reducible refine ex_wx ?_ _) | (with_reducible refine ex_drew ?_) | (with_reducible refine ex_alloc ?_ _))) (by simp [go_sem])) (by simp [bytesD_len]) (by simp [go_sem]) (fun v1 w1 hB hbe => ?_); obtain ⟨X5, rfl⟩ := exOf (A := wKc w d) (by (try show Ex _ _); repeat (first | (with_reducible exact ex_refl _) | (with_reducible assumption) | (with_reducible refine ex_drewL ?_) | (with_reducible refine ex_appR ?_ _) | (with_reducible refine ex_wx ?_ _) | (with_reducible refine ex_drew ?_) | (with_reducible refine ex_alloc ?_ _))) hbe)
  go_ret
  exact ⟨_, rfl, ownu_of hB, (by (try show Ex _ _); repeat (first | (with_reducible exact ex_refl _) | (with_reducible assumption) | (with_reducible refine ex_drewL ?_) | (with_reducible refine ex_appR ?_ _) | (with_reducible refine ex_wx ?_ _) | (with_reducible refine ex_drew ?_) | (with_reducible refine ex_alloc ?_ _)))⟩
theorem sls_lit2 {w w2 : World} {v : Value} {cs : List Value} {l : List UInt8} {t : TypeId} (k : Ex (w.alloc (.cells cs.toArray t)) w2) (hv : v = .slice (some ⟨w.heap.size, 0, none⟩) l.length l.length) (hl : cs = l.map B) (hm : l.length ≤ 1000) : SlS w2 v l := by
  subst hv
  exact sls_lit k rfl hl hm
set_option maxHeartbeats 1000000 in
theorem refcellB_any (p : Pr) (hp : FitP p) (w : World) :
    Calls Tryd.prog 121 #[.agg (PC p)] w (PostU w (leafL p)) := by
  obtain ⟨x, y⟩ := p
  obtain ⟨b1, b2⟩ : x.size ≤ 65535 ∧ y.size ≤ 65535 := hp
  have HR : Hid (leafL (x, y) = [0, UInt8.ofNat (x.size / 256 ^ 1), UInt8.ofNat (x.size / 256 ^ 0)] ++ x.data.toList ++ [UInt8.ofNat (y.size / 256 ^ 1), UInt8.ofNat (y.size / 256 ^ 0)] ++ y.data.toList) := Lib.hid (by
    unfold leafL
    rw [someL_fit b1, someL_fit b2]
    simp [hiL, List.range_succ])
  rw [HR.out]
  have h1 : (x.size : Int).tdiv 256 = bn (UInt8.ofNat (x.size / 256 ^ 1)) := by rw [← byte_hi x.size 1, Int.tdiv_eq_ediv_of_nonneg (by omega)]; omega
  have h1b : (x.size : Int) / 256 = bn (UInt8.ofNat (x.size / 256 ^ 1)) := by rw [← byte_hi x.size 1]; omega
  have h2 : (x.size : Int) % 256 = bn (UInt8.ofNat (x.size / 256 ^ 0)) := by have := byte_hi x.size 0; simpa using this
  have h3 : (y.size : Int).tdiv 256 = bn (UInt8.ofNat (y.size / 256 ^ 1)) := by rw [← byte_hi y.size 1, Int.tdiv_eq_ediv_of_nonneg (by omega)]; omega
  have h3b : (y.size : Int) / 256 = bn (UInt8.ofNat (y.size / 256 ^ 1)) := by rw [← byte_hi y.size 1]; omega
  have h4 : (y.size : Int) % 256 = bn (UInt8.ofNat (y.size / 256 ^ 0)) := by have := byte_hi y.size 0; simpa using this
  generalize UInt8.ofNat (x.size / 256 ^ 1) = c1 at *
  generalize UInt8.ofNat (x.size / 256 ^ 0) = c0 at *
  generalize UInt8.ofNat (y.size / 256 ^ 1) = d1 at *
  generalize UInt8.ofNat (y.size / 256 ^ 0) = d0 at *
  clear HR
  unfold PC
  have mixed : Tryd.prog.follows .mixedOrders = true := by kernel_rfl
  go_enter Tryd.func121, Tryd.ntmps121
  go_wp2
  go_big_region_o
  go_wp2_with (at_builtin; refine wpAppStr _ _ rfl rfl (owns_lit (Z := (wCb w x y).heap.size) (l := [0, c1, c0]) (by (try show Ex _ _); repeat (first | (with_reducible exact ex_refl _) | (with_reducible assumption) | (with_reducible refine ex_drewL ?_) | (with_reducible refine ex_appR ?_ _) | (with_reducible refine ex_wx ?_ _) | (with_reducible refine ex_drew ?_) | (with_reducible refine ex_alloc ?_ _))) (by simp [go_sem]) (by rfl) (by simp) (by simp [go_sem])) rfl x rfl (by simp; omega) (by simp [go_sem] <;> omega) (fun v1 w1 hB hbe => ?_); obtain ⟨X5, rfl⟩ := exOf (A := wCb w x y) (by (try show Ex _ _); repeat (first | (with_reducible exact ex_refl _) | (with_reducible assumption) | (with_reducible refine ex_drewL ?_) | (with_reducible refine ex_appR ?_ _) | (with_reducible refine ex_wx ?_ _) | (with_reducible refine ex_drew ?_) | (with_reducible refine ex_alloc ?_ _))) hbe)
  refine wp_region_seqA (wCb w x y) [(0, true), (1, true), (2, true), (3, true), (4, true), (5, true), (8, true), (9, true), (6, false), (7, false), (10, false), (11, true)] (by (try show Ex _ _); repeat (first | (with_reducible exact ex_refl _) | (with_reducible assumption) | (with_reducible refine ex_drewL ?_) | (with_reducible refine ex_appR ?_ _) | (with_reducible refine ex_wx ?_ _) | (with_reducible refine ex_drew ?_) | (with_reducible refine ex_alloc ?_ _))) (by kernel_rfl) (by kernel_rfl) (fun _ _ d _ _ h => by cases d <;> exact h) ?_
  simp only [List.map_cons, List.map_nil, nth]
  repeat (first | ((with_reducible refine wpSeq_look ?_); go_big_quiet_step (fail); (with_reducible refine wpQuiet_nil ?_)) | ((with_reducible refine wpSeq_effF ?_ ?_); (focus rfl); go_simp) | ((with_reducible refine wpSeq_eff ?_ ?_); (focus rfl); (try dsimp only); go_wp2_with (first | (at_builtin; refine wpAppB _ _ rfl rfl (owns_ex hB (by (try show Ex _ _); repeat (first | (with_reducible exact ex_refl _) | (with_reducible assumption) | (with_reducible refine ex_drewL ?_) | (with_reducible refine ex_appR ?_ _) | (with_reducible refine ex_wx ?_ _) | (with_reducible refine ex_drew ?_) | (with_reducible refine ex_alloc ?_ _)))) rfl rfl (sls_lit2 (l := [d1, d0]) (by (try show Ex _ _); repeat (first | (with_reducible exact ex_refl _) | (with_reducible assumption) | (with_reducible refine ex_drewL ?_) | (with_reducible refine ex_appR ?_ _) | (with_reducible refine ex_wx ?_ _) | (with_reducible refine ex_drew ?_) | (with_reducible refine ex_alloc ?_ _))) (by simp [go_sem]) (by rfl) (by simp)) (by simp [str_len]; omega) (by simp [go_sem] <;> omega) (fun v1 w1 hC hbe => ?_); obtain ⟨X6, rfl⟩ := exOf (A := wCb w x y) (by (try show Ex _ _); repeat (first | (with_reducible exact ex_refl _) | (with_reducible assumption) | (with_reducible refine ex_drewL ?_) | (with_reducible refine ex_appR ?_ _) | (with_reducible refine ex_wx ?_ _) | (with_reducible refine ex_drew ?_) | (with_reducible refine ex_alloc ?_ _))) hbe) | (at_builtin; refine wpAppStr _ _ rfl rfl (owns_ex hC (by (try show Ex _ _); repeat (first | (with_reducible exact ex_refl _) | (with_reducible assumption) | (with_reducible refine ex_drewL ?_) | (with_reducible refine ex_appR ?_ _) | (with_reducible refine ex_wx ?_ _) | (with_reducible refine ex_drew ?_) | (with_reducible refine ex_alloc ?_ _)))) rfl y rfl (by simp [str_len]; omega) (by simp [go_sem] <;> omega) (fun v1 w1 hD hbe => ?_); obtain ⟨X7, rfl⟩ := exOf (A := wCb w x y) (by (try show Ex _ _); repeat (first | (with_reducible exact ex_refl _) | (with_reducible assumption) | (with_reducible refine ex_drewL ?_) | (with_reducible refine ex_appR ?_ _) | (with_reducible refine ex_wx ?_ _) | (with_reducible refine ex_drew ?_) | (with_reducible refine ex_alloc ?_ _))) hbe)); refine mixQ_mk (by (try show Ex _ _); repeat (first | (with_reducible exact ex_refl _) | (with_reducible assumption) | (with_reducible refine ex_drewL ?_) | (with_reducible refine ex_appR ?_ _) | (with_reducible refine ex_wx ?_ _) | (with_reducible refine ex_drew ?_) | (with_reducible refine ex_alloc ?_ _))) ?_))
  refine wpSeq_nil ?_
  go_wp2
  go_ret
  exact ⟨_, rfl, OwnU.ex (ownu_of hD) (by (try show Ex _ _); repeat (first | (with_reducible exact ex_refl _) | (with_reducible assumption) | (with_reducible refine ex_drewL ?_) | (with_reducible refine ex_appR ?_ _) | (with_reducible refine ex_wx ?_ _) | (with_reducible refine ex_drew ?_) | (with_reducible refine ex_alloc ?_ _))), (by (try show Ex _ _); repeat (first | (with_reducible exact ex_refl _) | (with_reducible assumption) | (with_reducible refine ex_drewL ?_) | (with_reducible refine ex_appR ?_ _) | (with_reducible refine ex_wx ?_ _) | (with_reducible refine ex_drew ?_) | (with_reducible refine ex_alloc ?_ _)))⟩
end Go.Proofs.YtcdocklbpfdmeaaDoor
