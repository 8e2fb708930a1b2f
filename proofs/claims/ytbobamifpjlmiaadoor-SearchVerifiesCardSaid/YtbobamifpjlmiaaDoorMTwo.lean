import Derived.Test.YtbobamifpjlmiaaDoorMSeq
import Derived.Test.YtbobamifpjlmiaaDoorMOct
import Derived.Test.YtbobamifpjlmiaaDoorMCat
import Derived.Laws.IdiomStrings
import Derived.Laws.BitsAllLaws

/- A region that draws its order, at one world, where two of what makes may come up in either order. Over whatever program. -/
set_option linter.unusedSimpArgs false
set_option linter.unusedVariables false
set_option maxRecDepth 20000
namespace Go.Proofs.YtbobamifpjlmiaaDoor
open Go.RowKit
inductive Stp where
  | look (o : Oper)
  | eff (o : Oper)
  | two (o p : Oper)
inductive Ix where
  | look (i : Nat)
  | eff (i : Nat)
  | two (i j : Nat)
section
variable {P : Program} {ops : Array Oper} {Q : Exit → Act → World → Prop} {md : Region.Mode}
def effT (P : Program) (ops : Array Oper) (Q : Exit → Act → World → Prop) (A : World) (o : Oper) (K : Act → World → Prop) (a : Act) (w : World) : Prop :=
  if Region.wanted o (yielded ops a.tmps) then (o.wp P a w (fun a' w' => Ex A w' ∧ K a' w') Q ∨ (o.asks P a w ∧ LetsOut Q)) else K (a.put o.dst undef) w
def wpTwo (P : Program) (ops : Array Oper) (Q : Exit → Act → World → Prop) (A : World) : List Stp → Act → World → Prop
  | [], a, w => Q .normal a w
  | .look o :: r, a, w => if Region.wanted o (yielded ops a.tmps) then o.quiet P a (Ex A) (fun a' => wpTwo P ops Q A r a' w) else wpTwo P ops Q A r (a.put o.dst undef) w
  | .eff o :: r, a, w => effT P ops Q A o (wpTwo P ops Q A r) a w
  | .two o p :: r, a, w => effT P ops Q A o (effT P ops Q A p (wpTwo P ops Q A r)) a w ∧ effT P ops Q A p (effT P ops Q A o (wpTwo P ops Q A r)) a w
theorem wpTwo_look {A : World} {o : Oper} {r : List Stp} {a : Act} {w : World}
    (h : wpQuiet P ops (fun w' => ∃ X, w' = wx A X) (fun a' => wpTwo P ops Q A r a' w) [o] a) : wpTwo P ops Q A (.look o :: r) a w := h
theorem wpTwo_eff {A : World} {o : Oper} {r : List Stp} {a : Act} {w : World} (h : effT P ops Q A o (wpTwo P ops Q A r) a w) : wpTwo P ops Q A (.eff o :: r) a w := h
theorem wpTwo_two {A : World} {o p : Oper} {r : List Stp} {a : Act} {w : World} (h : effT P ops Q A o (effT P ops Q A p (wpTwo P ops Q A r)) a w) (k : effT P ops Q A p (effT P ops Q A o (wpTwo P ops Q A r)) a w) : wpTwo P ops Q A (.two o p :: r) a w := ⟨h, k⟩
theorem wpTwo_nil {A : World} {a : Act} {w : World} (h : Q .normal a w) : wpTwo P ops Q A [] a w := h
theorem effT_T {A : World} {o : Oper} {K : Act → World → Prop} {a : Act} {w : World} (hw : Region.wanted o (yielded ops a.tmps) = true)
    (h : wpList P ops (MixQ Q K A) [{ o with guard := none }] a w) : effT P ops Q A o K a w := by
  unfold effT
  rw [if_pos hw]
  unfold wpList at h
  rw [if_pos (by simp [Region.wanted])] at h
  rcases h with h | ⟨h1, h2⟩
  · exact .inl (mixQ_wp (Oper.wp_mono (fun a' w' h' => h') h))
  · exact .inr ⟨h1, h2⟩
theorem effT_F {A : World} {o : Oper} {K : Act → World → Prop} {a : Act} {w : World} (hw : Region.wanted o (yielded ops a.tmps) = false) (h : K (a.put o.dst undef) w) : effT P ops Q A o K a w := by
  unfold effT
  rw [hw]
  exact h
theorem effT_op {A : World} {i : Nat} {o : Oper} {K : Act → World → Prop} {a : Act} {w : World} (hi : ops[i]? = some o) (hA : Ex A w) (h : effT P ops Q A o K a w) : wpOp P ops Q i (fun a' w' => Ex A w' ∧ K a' w') a w := by
  unfold effT at h
  unfold wpOp
  simp only [hi]
  by_cases hw : Region.wanted o (yielded ops a.tmps) = true
  · rw [if_pos hw] at h ⊢; exact h
  · rw [if_neg hw] at h ⊢; exact ⟨hA, h⟩
def ixOp (ops : Array Oper) : Ix → Option Stp
  | .look i => (ops[i]?).map .look
  | .eff i => (ops[i]?).map .eff
  | .two i j => match ops[i]?, ops[j]? with | some o, some p => some (.two o p) | _, _ => none
def fuelT : List Ix → Nat
  | [] => 0
  | .two _ _ :: r => fuelT r + 1 + 1
  | _ :: r => fuelT r + 1
def twoOk (md : Region.Mode) (ops : Array Oper) : List Ix → Array Bool → Bool
  | [], listed => Region.ready md ops listed == []
  | .look i :: r, listed => (Region.ready md ops listed).contains i && (Region.free md ops listed i && ((ops[i]?).map (fun o => isLook o.op)).getD false) && twoOk md ops r (listed.setIfInBounds i true)
  | .eff i :: r, listed => Region.ready md ops listed == [i] && twoOk md ops r (listed.setIfInBounds i true)
  | .two i j :: r, listed => !(i == j) && Region.ready md ops listed == [i, j] && Region.ready md ops (listed.setIfInBounds i true) == [j] && Region.ready md ops (listed.setIfInBounds j true) == [i] && twoOk md ops r ((listed.setIfInBounds i true).setIfInBounds j true)
theorem wpAnyH_two {A : World} (hsel : Region.noSelect ops = true) (hQ : ∀ c a d v w, Q (.panic c) (a.put d v) w → Q (.panic c) a w) :
    ∀ (l : List Ix) (m : List Stp) (listed : Array Bool) (a : Act) (w : World), l.map (ixOp ops) = m.map some → twoOk md ops l listed = true → Ex A w →
      wpTwo P ops Q A m a w → wpAnyH P md ops Q (Ex A) (fuelT l) listed a w := by
  intro l
  induction l with
  | nil =>
    intro m listed a w hm hB hA h
    cases m with
    | nil => exact wpAnyH_done (by simpa [twoOk] using hB) h _
    | cons x m => cases hm
  | cons x l ih =>
    intro m listed a w hm hB hA h
    cases m with
    | nil => cases hm
    | cons y m =>
      simp only [List.map_cons, List.cons.injEq] at hm
      obtain ⟨hx, hm⟩ := hm
      cases x with
      | look i =>
        simp only [ixOp, Option.map_eq_some_iff] at hx
        obtain ⟨o, ho, rfl⟩ := hx
        simp only [twoOk, Bool.and_eq_true] at hB
        obtain ⟨⟨hr, hf, hl⟩, hB'⟩ := hB
        have hl' : isLook o.op = true := by simpa [ho] using hl
        have hst : ∃ v, YieldsIf P ops (Ex A) o v a ∧ wpTwo P ops Q A m (a.put o.dst v) w := by
          unfold wpTwo at h
          by_cases hw : Region.wanted o (yielded ops a.tmps) = true
          · rw [if_pos hw] at h
            obtain ⟨v, h1, h2⟩ := h
            refine ⟨v, .inl ⟨hw, fun w' hw' => ?_⟩, h2⟩
            have h3 := h1 w' hw'
            unfold Oper.quietAt at h3
            cases hrun : (execOp a.eval o).run P w' with
            | ok x w1 =>
              obtain ⟨u, rfl⟩ := look_value hl' a.eval w' x w1 hrun
              rw [hrun] at h3
              simp only [Oper.quietUpon] at h3
              rw [h3.1, h3.2]
            | halt x w1 => rw [hrun] at h3; exact h3.elim
          · rw [if_neg hw] at h
            exact ⟨undef, .inr ⟨by simpa using hw, rfl⟩, h⟩
        obtain ⟨v, hy, hK⟩ := hst
        exact wpAnyH_take ho hsel hf hr (fun c a w => hQ c a _ _ w) hy hA (ih m _ _ _ hm hB' hA hK)
      | eff i =>
        simp only [ixOp, Option.map_eq_some_iff] at hx
        obtain ⟨o, ho, rfl⟩ := hx
        simp only [twoOk, Bool.and_eq_true, beq_iff_eq] at hB
        obtain ⟨hk, hB'⟩ := hB
        refine wpAnyH_all hk (by simp) fun j hj => ?_
        have hji : j = i := by simpa using hj
        subst hji
        exact wpOp_mono (fun a' w' h' => ⟨h'.1, ih m _ _ _ hm hB' h'.1 h'.2⟩) (effT_op ho hA h)
      | two i j =>
        have hxy : ∃ o p, ops[i]? = some o ∧ ops[j]? = some p ∧ y = .two o p := by
          simp only [ixOp] at hx
          cases ho : ops[i]? with
          | none => rw [ho] at hx; cases hx
          | some o =>
            cases hp : ops[j]? with
            | none => rw [ho, hp] at hx; cases hx
            | some p => rw [ho, hp] at hx; exact ⟨o, p, rfl, rfl, (Option.some.inj hx).symm⟩
        obtain ⟨o, p, ho, hp, rfl⟩ := hxy
        simp only [twoOk, Bool.and_eq_true, beq_iff_eq, Bool.not_eq_true', beq_eq_false_iff_ne] at hB
        obtain ⟨⟨⟨⟨hne, hk⟩, hk1⟩, hk2⟩, hB'⟩ := hB
        have hc : (listed.setIfInBounds j true).setIfInBounds i true = (listed.setIfInBounds i true).setIfInBounds j true := Array.setIfInBounds_comm _ _ (Ne.symm hne)
        refine wpAnyH_all hk (by simp) fun q hq => ?_
        have hq2 : q = i ∨ q = j := by simpa using hq
        rcases hq2 with rfl | rfl
        · refine wpOp_mono (fun a' w' h' => ⟨h'.1, ?_⟩) (effT_op ho hA h.1)
          refine wpAnyH_all hk1 (by simp) fun q2 hq2 => ?_
          have hqj : q2 = j := by simpa using hq2
          subst hqj
          exact wpOp_mono (fun a' w' h'' => ⟨h''.1, ih m _ _ _ hm hB' h''.1 h''.2⟩) (effT_op hp h'.1 h'.2)
        · refine wpOp_mono (fun a' w' h' => ⟨h'.1, ?_⟩) (effT_op hp hA h.2)
          refine wpAnyH_all hk2 (by simp) fun q2 hq2 => ?_
          have hqj : q2 = i := by simpa using hq2
          subst hqj
          exact wpOp_mono (fun a' w' h'' => ⟨h''.1, by rw [hc]; exact ih m _ _ _ hm hB' h''.1 h''.2⟩) (effT_op ho h'.1 h'.2)
def ixStp (l : List Oper) : Ix → Stp
  | .look i => .look (nth l i)
  | .eff i => .eff (nth l i)
  | .two i j => .two (nth l i) (nth l j)
def ixIn (n : Nat) : Ix → Bool
  | .look i => decide (i < n)
  | .eff i => decide (i < n)
  | .two i j => decide (i < n) && decide (j < n)
/-- **One order serves every order**, but for pairs. -/
theorem wp_region_two {id : Nat} {a : Act} {w : World} {l : List Oper} (A : World) (order : List Ix) (hA : Ex A w.drew) (hm : P.follows .mixedOrders = true)
    (hB : (Region.noSelect l.toArray && fuelT order == l.toArray.size && order.all (ixIn l.length) && twoOk .any l.toArray order (Array.replicate l.toArray.size false)) = true)
    (hQ : ∀ c a d v w, Q (.panic c) (a.put d v) w → Q (.panic c) a w)
    (h : wpTwo P l.toArray Q A (order.map (ixStp l)) a w.drew) : (Code.region id l.toArray true).wp P Q a w := by
  simp only [Bool.and_eq_true, beq_iff_eq, List.all_eq_true] at hB
  obtain ⟨⟨⟨hsel, hlen⟩, hall⟩, hseq⟩ := hB
  refine wp_region_held (S := Ex A) hm ?_
  have H := wpAnyH_two (md := .any) (P := P) (A := A) hsel hQ order (order.map (ixStp l)) (Array.replicate l.toArray.size false) a w.drew (by
    rw [List.map_map]
    refine List.map_congr_left fun x hx => ?_
    have hx2 := hall x hx
    cases x with
    | look i => simp only [ixIn, decide_eq_true_eq] at hx2; simp only [ixOp, ixStp, Function.comp, nth_get l i hx2, Option.map_some]
    | eff i => simp only [ixIn, decide_eq_true_eq] at hx2; simp only [ixOp, ixStp, Function.comp, nth_get l i hx2, Option.map_some]
    | two i j => simp only [ixIn, Bool.and_eq_true, decide_eq_true_eq] at hx2; simp only [ixOp, ixStp, Function.comp, nth_get l i hx2.1, nth_get l j hx2.2]) hseq hA h
  rwa [hlen] at H
end
end Go.Proofs.YtbobamifpjlmiaaDoor

/- What is digested of pairs and digests: both texts. -/
set_option linter.unusedSimpArgs false
set_option linter.unusedVariables false
set_option maxRecDepth 20000
namespace Go.Proofs.YtbobamifpjlmiaaDoor
open Go.RowKit
theorem and_low (n : Int) : Go.bits .and .u64 (n % 18446744073709551616) 4294967295 = n % 4294967296 := by
  rw [Go.u64_and _ _ (by omega) (by omega) (by decide) (by decide)]
  have : (4294967295 : Int).toNat = 2 ^ 32 - 1 := rfl
  rw [this, Nat.and_two_pow_sub_one_eq_mod]
  omega
theorem str_cells (s : ByteArray) : Lib.strCells s = Lib.byteCells s.data.toList := rfl
theorem wpAppStr {ops : Array Oper} {rest : List Oper} {o : Oper} {a : Act} {w : World} {Q : Exit → Act → World → Prop} (s x : Operand) (hgd : o.guard = none)
    (ho : o.op = .call { callee := .builtin .append, args := #[s, x], argTypes := #[38, 9] })
    {Z : Nat} {v : Value} {n : Nat} {l : List UInt8} (hown : w.ownsRow Z 5 1 v n (Lib.byteCells l)) (hs : a.eval s = v) (st : ByteArray) (hx : a.eval x = .string st) (hlen : n + st.size ≤ 140737488355328) (hZ : Z ≤ w.heap.size)
    (h : ∀ v' w', w'.ownsRow Z 5 1 v' (n + st.size) (Lib.byteCells (l ++ st.data.toList)) → Below Z w w' → wpList Tryd.prog ops Q rest (a.put o.dst v') w') : wpList Tryd.prog ops Q (o :: rest) a w := by
  obtain ⟨i, hi, h1', h2', h3'⟩ := info_parts appu8.hi
  refine Lib.wpList_append_own_string w hgd s x _ _ ho Z 5 i appu8.ht Tryd.underlying9 hi h1' h2' h3' v n _ hs hown st hx (by unfold maxLen; omega) hlen hZ fun v' w' k1 k2 _ => ?_
  rw [str_cells, bytes_app] at k1
  exact h v' w' k1 (below_app hown k2 hZ)
/-- A text, as much as is digested of it. -/
def PostS (W : World) (s : ByteArray) (e : Ending) (w' : World) : Prop := ∃ t : ByteArray, e = .returned (.string t) ∧ t.size = min s.size 65535 ∧ t.data.toList = s.data.toList.take 65535 ∧ ∃ X, w' = wx W X
theorem shortS_any (s : ByteArray) (w : World) : Calls Tryd.prog 82 #[.string s] w (PostS w s) := by
  by_cases h : s.size ≤ 65535
  · have e1 : (s.size : Int) ≤ 65535 := by omega
    go_enter Tryd.func82, Tryd.ntmps82
    go_wp2
    go_ret
    refine ⟨_, rfl, by omega, ?_, (by (try show Ex _ _); repeat (first | (with_reducible exact ex_refl _) | (with_reducible assumption) | (with_reducible refine ex_drewL ?_) | (with_reducible refine ex_appR ?_ _) | (with_reducible refine ex_wx ?_ _) | (with_reducible refine ex_drew ?_) | (with_reducible refine ex_alloc ?_ _)))⟩
    rw [List.take_of_length_le (by rw [Array.length_toList]; exact h)]
  · have e1 : ¬ (s.size : Int) ≤ 65535 := by omega
    have e2 : (65535 : Int) ≤ s.size := by omega
    have e3 : 65535 ≤ s.size := by omega
    have e4 : min (s.size : Int) 65535 = 65535 := by omega
    go_enter Tryd.func82, Tryd.ntmps82
    go_wp2
    go_ret
    refine ⟨_, rfl, ?_, ?_, (by (try show Ex _ _); repeat (first | (with_reducible exact ex_refl _) | (with_reducible assumption) | (with_reducible refine ex_drewL ?_) | (with_reducible refine ex_appR ?_ _) | (with_reducible refine ex_wx ?_ _) | (with_reducible refine ex_drew ?_) | (with_reducible refine ex_alloc ?_ _)))⟩
    · simp; omega
    · simp [ByteArray.data_extract]
theorem str_len (s : ByteArray) : s.data.toList.length = s.size := Array.length_toList
theorem owns_le {w : World} {Z Z' : Nat} {t : TypeId} {s : Nat} {v : Value} {n : Nat} {xs : List Value} (h : w.ownsRow Z t s v n xs) (hz : Z' ≤ Z) : w.ownsRow Z' t s v n xs := by
  refine ⟨h.1, ?_⟩
  rcases h.2 with h | ⟨g, cap, cur, h1, h2, h3⟩
  · exact .inl h
  · exact .inr ⟨g, cap, cur, h1, by omega, h3⟩
theorem some_of {x t : ByteArray} (h1 : t.size = min x.size 65535) (h2 : t.data.toList = x.data.toList.take 65535) : someL x = hiL t.size 2 ++ t.data.toList := by
  unfold someL; rw [h1, h2]
theorem leaf_len (s : ByteArray) : (someL s).length = 2 + min s.size 65535 := by
  unfold someL
  rw [List.length_append, hiL_len, List.length_take, Array.length_toList, Nat.min_comm]
  rfl
abbrev wL (w : World) (x y : ByteArray) : World := (w.alloc (.cells #[.string x, .string y] 80)).alloc (.cells (rowB 32 fun _ => 0) 26)
set_option maxHeartbeats 1000000 in
theorem sleaf_any {w0 : World} (G : Glob w0) (p : Pr) (w : World) (k0 : Ex w0 w) :
    Calls Tryd.prog 52 #[.agg (PC p)] w (Post w (.agg (rowB 32 (dF (leafP p))))) := by
  replace G := G.ex k0
  clear k0
  obtain ⟨x, y⟩ := p
  unfold PC
  go_enter Tryd.func52, Tryd.ntmps52
  go_wp2
  have tok1 : True := trivial
  refine wp_region_mix [(0, true), (1, true), (3, true), (4, true), (2, false), (5, false), (6, true), (7, true)] 8 (by kernel_rfl) (by kernel_rfl) (fun _ _ d _ _ h => by cases d <;> exact h) ?_
  simp only [List.map_cons, List.map_nil, nth, List.drop_succ_cons, List.drop_zero]
  repeat (first | (refine wpMix_look ?_; go_big_quiet_step (fail); refine wpQuiet_nil ?_) | (refine wpMix_eff rfl (fun X1 => ?_); go_wp2_with (first | (go_at_call 82; (with_reducible refine (shortS_any x _).mono ?_); rintro e w2 ⟨s1, rfl, s2, s3, X, rfl⟩) | (go_at_call 82; (with_reducible refine (shortS_any y _).mono ?_); rintro e w2 ⟨t1, rfl, t2, t3, X, rfl⟩)); refine mixQ_mk (by first | exact ex_refl _ | exact ⟨_, rfl⟩ | exact ex_app _ _ _ | (simp only [wx_wx, wx_drew]; first | exact ex_refl _ | exact ex_app _ _ _ | exact ⟨_, rfl⟩) | (repeat (first | exact ex_refl _ | refine ex_drew ?_ | refine ex_alloc ?_ _ | refine ex_wx ?_ _))) ?_))
  refine wpMix_nil (fun X2 => ?_)
  have HX := Lib.hid (some_of s2 s3)
  have HY := Lib.hid (some_of t2 t3)
  have b1 : s1.size ≤ 65535 := by omega
  have b2 : t1.size ≤ 65535 := by omega
  have q1 : (s1.size : Int) % 65536 = s1.size := by omega
  have q2 : (t1.size : Int) % 65536 = t1.size := by omega
  clear s2 s3 t2 t3
  have tok2 : True := trivial
  go_wp2_with (first | (go_at_call 83; have _t := tok2; clear tok2; (refine (put16_any s1.size (by omega) [0] _ _ (by simp) (by simp) (sls_one 0 (by (try show Ex _ _); repeat (first | (with_reducible exact ex_refl _) | (with_reducible assumption) | (with_reducible refine ex_drewL ?_) | (with_reducible refine ex_appR ?_ _) | (with_reducible refine ex_wx ?_ _) | (with_reducible refine ex_drew ?_) | (with_reducible refine ex_alloc ?_ _))) (by simp [go_sem]) (by rfl))).mono ?_); rintro e w2 ⟨v2, rfl, hA0, XA, rfl⟩; have hA := owns_le hA0 (Z' := (wL w x y).heap.size) (by simp [go_sem] <;> omega); clear hA0; (try simp only [wx_wx] at hA)) | (at_builtin; refine wpAppStr _ _ rfl rfl hA rfl s1 rfl (by simp; omega) (by simp [go_sem] <;> omega) (fun v1 w1 hB hbe => ?_); obtain ⟨X5, rfl⟩ := exOf (A := wL w x y) (by (try show Ex _ _); repeat (first | (with_reducible exact ex_refl _) | (with_reducible assumption) | (with_reducible refine ex_drewL ?_) | (with_reducible refine ex_appR ?_ _) | (with_reducible refine ex_wx ?_ _) | (with_reducible refine ex_drew ?_) | (with_reducible refine ex_alloc ?_ _))) hbe; clear hA) | (go_at_call 83; (refine (put16_any t1.size (by omega) _ _ _ (by simp only [List.length_append, hiL_len, str_len, List.length_singleton]; omega) (by simp) (owns_sls hB (by omega))).mono ?_); rintro e w2 ⟨v3, rfl, hC0, XC, rfl⟩; have hC := owns_le hC0 (Z' := (wL w x y).heap.size) (by simp [go_sem] <;> omega); clear hC0 hB; (try simp only [wx_wx] at hC)) | (at_builtin; refine wpAppStr _ _ rfl rfl hC rfl t1 rfl (by simp only [List.length_append, hiL_len, str_len, List.length_singleton]; omega) (by simp [go_sem] <;> omega) (fun v1 w1 hD hbe => ?_); obtain ⟨X6, rfl⟩ := exOf (A := wL w x y) (by (try show Ex _ _); repeat (first | (with_reducible exact ex_refl _) | (with_reducible assumption) | (with_reducible refine ex_drewL ?_) | (with_reducible refine ex_appR ?_ _) | (with_reducible refine ex_wx ?_ _) | (with_reducible refine ex_drew ?_) | (with_reducible refine ex_alloc ?_ _))) hbe; clear hC) | (go_at_call 66; refine (sum_slt G (by (try show Ex _ _); repeat (first | (with_reducible exact ex_refl _) | (with_reducible assumption) | (with_reducible refine ex_drewL ?_) | (with_reducible refine ex_appR ?_ _) | (with_reducible refine ex_wx ?_ _) | (with_reducible refine ex_drew ?_) | (with_reducible refine ex_alloc ?_ _))) (owns_slt hD) (by simp only [List.length_append, hiL_len, str_len, List.length_singleton]; omega)).mono ?_; rintro e w2 ⟨rfl, XE, rfl⟩))
  all_goals first | (exfalso; omega) | exact ret_row (cs := rowB 32 (dF (leafP (x, y)))) Tryd.results52 Tryd.underlying26 rfl info_id rfl (by simp [go_sem]; unfold leafP leafL; rw [HX.out, HY.out]; simp) rfl (post_mk rfl (by (try show Ex _ _); repeat (first | (with_reducible exact ex_refl _) | (with_reducible assumption) | (with_reducible refine ex_drewL ?_) | (with_reducible refine ex_appR ?_ _) | (with_reducible refine ex_wx ?_ _) | (with_reducible refine ex_drew ?_) | (with_reducible refine ex_alloc ?_ _))))
set_option maxHeartbeats 1000000 in
theorem sjoin_any {w0 : World} (G : Glob w0) (a b : Dg) (w : World) (k0 : Ex w0 w) :
    Calls Tryd.prog 55 #[.agg (rowB 32 (dF a)), .agg (rowB 32 (dF b))] w (Post w (.agg (rowB 32 (dF (nodeD a b))))) := by
  replace G := G.ex k0
  clear k0
  go_enter Tryd.func55, Tryd.ntmps55
  go_wp2
  refine wp_region_seqA (w) [(1, true), (3, true), (0, false), (2, false), (4, false), (5, false), (6, false)] (by (try show Ex _ _); repeat (first | (with_reducible exact ex_refl _) | (with_reducible assumption) | (with_reducible refine ex_drewL ?_) | (with_reducible refine ex_appR ?_ _) | (with_reducible refine ex_wx ?_ _) | (with_reducible refine ex_drew ?_) | (with_reducible refine ex_alloc ?_ _))) (by kernel_rfl) (by kernel_rfl) (fun _ _ d _ _ h => by cases d <;> exact h) ?_
  simp only [List.map_cons, List.map_nil, nth]
  repeat (first | ((with_reducible refine wpSeq_look ?_); go_big_quiet_step (fail); (with_reducible refine wpQuiet_nil ?_)) | ((with_reducible refine wpSeq_effF ?_ ?_); (focus rfl); go_simp) | ((with_reducible refine wpSeq_eff ?_ ?_); (focus rfl); (try dsimp only); go_wp2_with (first | (at_builtin; refine wpAppB _ _ rfl rfl hown rfl rfl (sls_dg b (by (try show Ex _ _); repeat (first | (with_reducible exact ex_refl _) | (with_reducible assumption) | (with_reducible refine ex_drewL ?_) | (with_reducible refine ex_appR ?_ _) | (with_reducible refine ex_wx ?_ _) | (with_reducible refine ex_drew ?_) | (with_reducible refine ex_alloc ?_ _))) (by simp [go_sem])) (by simp [bytesD_len]) (by simp [go_sem]) (fun v2 w2 hown2 hbe2 => ?_); obtain ⟨X2, rfl⟩ := exOf (by (try show Ex _ _); repeat (first | (with_reducible exact ex_refl _) | (with_reducible assumption) | (with_reducible refine ex_drewL ?_) | (with_reducible refine ex_appR ?_ _) | (with_reducible refine ex_wx ?_ _) | (with_reducible refine ex_drew ?_) | (with_reducible refine ex_alloc ?_ _))) hbe2) | (at_builtin; refine wpAppB _ _ rfl rfl (owns_one (Z := (w3 w a b).heap.size) 1 (by (try show Ex _ _); repeat (first | (with_reducible exact ex_refl _) | (with_reducible assumption) | (with_reducible refine ex_drewL ?_) | (with_reducible refine ex_appR ?_ _) | (with_reducible refine ex_wx ?_ _) | (with_reducible refine ex_drew ?_) | (with_reducible refine ex_alloc ?_ _))) (by simp [go_sem]) (by rfl) (by simp [go_sem])) rfl rfl (sls_dg a (by (try show Ex _ _); repeat (first | (with_reducible exact ex_refl _) | (with_reducible assumption) | (with_reducible refine ex_drewL ?_) | (with_reducible refine ex_appR ?_ _) | (with_reducible refine ex_wx ?_ _) | (with_reducible refine ex_drew ?_) | (with_reducible refine ex_alloc ?_ _))) (by simp [go_sem])) (by simp [bytesD_len]) (by simp [go_sem]) (fun v1 w1 hown hbe => ?_); obtain ⟨X1, rfl⟩ := exOf (by (try show Ex _ _); repeat (first | (with_reducible exact ex_refl _) | (with_reducible assumption) | (with_reducible refine ex_drewL ?_) | (with_reducible refine ex_appR ?_ _) | (with_reducible refine ex_wx ?_ _) | (with_reducible refine ex_drew ?_) | (with_reducible refine ex_alloc ?_ _))) hbe) | (go_at_call 66; refine (sum_slt G (by (try show Ex _ _); repeat (first | (with_reducible exact ex_refl _) | (with_reducible assumption) | (with_reducible refine ex_drewL ?_) | (with_reducible refine ex_appR ?_ _) | (with_reducible refine ex_wx ?_ _) | (with_reducible refine ex_drew ?_) | (with_reducible refine ex_alloc ?_ _))) (owns_slt hown2) (by simp [bytesD_len])).mono ?_; rintro e w2 ⟨rfl, X, rfl⟩)); refine mixQ_mk (by (try show Ex _ _); repeat (first | (with_reducible exact ex_refl _) | (with_reducible assumption) | (with_reducible refine ex_drewL ?_) | (with_reducible refine ex_appR ?_ _) | (with_reducible refine ex_wx ?_ _) | (with_reducible refine ex_drew ?_) | (with_reducible refine ex_alloc ?_ _))) ?_))
  refine wpSeq_nil ?_
  go_wp2
  all_goals first | (exfalso; omega) | exact ret_row (cs := rowB 32 (dF (nodeD a b))) Tryd.results55 Tryd.underlying26 rfl info_id rfl (by simp [go_sem]; unfold nodeD; simp) rfl (post_mk rfl (by (try show Ex _ _); repeat (first | (with_reducible exact ex_refl _) | (with_reducible assumption) | (with_reducible refine ex_drewL ?_) | (with_reducible refine ex_appR ?_ _) | (with_reducible refine ex_wx ?_ _) | (with_reducible refine ex_drew ?_) | (with_reducible refine ex_alloc ?_ _))))
/-- Bytes, not nil, handed back. -/
def PostL (W : World) (l : List UInt8) (e : Ending) (w' : World) : Prop := ∃ v, e = .returned v ∧ SlS w' v l ∧ ∃ X, w' = wx W X
theorem refboth {va vb : Value} {l r : List UInt8} (w : World) (h1 : SlS w va l) (h2 : SlS w vb r) (hl : l.length + r.length ≤ 1000000) (h0 : 0 < l.length + r.length) :
    Calls Tryd.prog 86 #[va, vb] w (PostL w (l ++ r)) :=
  (both_any w h1 h2 hl).mono fun e w' ⟨v, h3, h4, h5⟩ => ⟨v, h3, owns_sls h4 h0, h5⟩
theorem refhigh (x n : Nat) (w : World) (hx : x < 18446744073709551616) (hn : n ≤ 8) (h0 : 0 < n) :
    Calls Tryd.prog 89 #[.int .u64 x, I n] w (PostL w (hiL x n)) :=
  (high_any x n w hx hn).mono fun e w' ⟨v, h3, h4, h5⟩ => ⟨v, h3, owns_sls h4 h0, h5⟩
set_option maxHeartbeats 1000000 in
theorem refjoin_any (a b : Dg) (w : World) :
    Calls Tryd.prog 56 #[.agg (rowB 32 (dF a)), .agg (rowB 32 (dF b))] w (PostL w (1 :: (bytesD a ++ bytesD b))) := by
  go_enter Tryd.func56, Tryd.ntmps56
  go_wp2
  refine wp_region_seqA (w) [(1, true), (3, true), (0, false), (2, false), (4, false), (5, true)] (by (try show Ex _ _); repeat (first | (with_reducible exact ex_refl _) | (with_reducible assumption) | (with_reducible refine ex_drewL ?_) | (with_reducible refine ex_appR ?_ _) | (with_reducible refine ex_wx ?_ _) | (with_reducible refine ex_drew ?_) | (with_reducible refine ex_alloc ?_ _))) (by kernel_rfl) (by kernel_rfl) (fun _ _ d _ _ h => by cases d <;> exact h) ?_
  simp only [List.map_cons, List.map_nil, nth]
  repeat (first | ((with_reducible refine wpSeq_look ?_); go_big_quiet_step (fail); (with_reducible refine wpQuiet_nil ?_)) | ((with_reducible refine wpSeq_effF ?_ ?_); (focus rfl); go_simp) | ((with_reducible refine wpSeq_eff ?_ ?_); (focus rfl); (try dsimp only); go_wp2_with (first | (go_at_call 86; refine (refboth _ hA (sls_dg b (by (try show Ex _ _); repeat (first | (with_reducible exact ex_refl _) | (with_reducible assumption) | (with_reducible refine ex_drewL ?_) | (with_reducible refine ex_appR ?_ _) | (with_reducible refine ex_wx ?_ _) | (with_reducible refine ex_drew ?_) | (with_reducible refine ex_alloc ?_ _))) (by simp [go_sem])) (by simp [bytesD_len]) (by simp [bytesD_len])).mono ?_; rintro e w2 ⟨v2, rfl, hB, X2, rfl⟩; (try simp only [wx_wx, wx_drew] at hB)) | (go_at_call 86; refine (refboth _ (sls_one 1 (by (try show Ex _ _); repeat (first | (with_reducible exact ex_refl _) | (with_reducible assumption) | (with_reducible refine ex_drewL ?_) | (with_reducible refine ex_appR ?_ _) | (with_reducible refine ex_wx ?_ _) | (with_reducible refine ex_drew ?_) | (with_reducible refine ex_alloc ?_ _))) (by simp [go_sem]) (by rfl)) (sls_dg a (by (try show Ex _ _); repeat (first | (with_reducible exact ex_refl _) | (with_reducible assumption) | (with_reducible refine ex_drewL ?_) | (with_reducible refine ex_appR ?_ _) | (with_reducible refine ex_wx ?_ _) | (with_reducible refine ex_drew ?_) | (with_reducible refine ex_alloc ?_ _))) (by simp [go_sem])) (by simp [bytesD_len]) (by simp [bytesD_len])).mono ?_; rintro e w2 ⟨v1, rfl, hA, X1, rfl⟩; (try simp only [wx_wx, wx_drew] at hA))); refine mixQ_mk (by (try show Ex _ _); repeat (first | (with_reducible exact ex_refl _) | (with_reducible assumption) | (with_reducible refine ex_drewL ?_) | (with_reducible refine ex_appR ?_ _) | (with_reducible refine ex_wx ?_ _) | (with_reducible refine ex_drew ?_) | (with_reducible refine ex_alloc ?_ _))) ?_))
  refine wpSeq_nil ?_
  go_wp2
  go_ret
  exact ⟨_, rfl, by simpa using hB, (by (try show Ex _ _); repeat (first | (with_reducible exact ex_refl _) | (with_reducible assumption) | (with_reducible refine ex_drewL ?_) | (with_reducible refine ex_appR ?_ _) | (with_reducible refine ex_wx ?_ _) | (with_reducible refine ex_drew ?_) | (with_reducible refine ex_alloc ?_ _)))⟩
abbrev wK (w : World) (d : Dg) : World := (w.alloc (.cells (rowB 32 (dF d)) 26)).alloc (.cells (rowB 32 fun _ => 0) 26)
set_option maxHeartbeats 1000000 in
theorem scrown_any {w0 : World} (G : Glob w0) (n : Int) (d : Dg) (w : World) (k0 : Ex w0 w) :
    Calls Tryd.prog 57 #[I n, .agg (rowB 32 (dF d))] w (Post w (.agg (rowB 32 (dF (crownD n d))))) := by
  replace G := G.ex k0
  clear k0
  obtain ⟨m, hm⟩ : ∃ m, (n % 4294967296).toNat = m := ⟨_, rfl⟩
  have hn : n % 4294967296 = (m : Int) := by omega
  have hml : m < 4294967296 := by omega
  obtain ⟨R, hR⟩ : ∃ R, crownD n d = R := ⟨_, rfl⟩
  rw [hR]
  have HR : Hid (sumD ([2] ++ hiL m 4 ++ bytesD d) = R) := Lib.hid (by rw [← hR, ← hm]; rfl)
  clear hm hR
  go_enter Tryd.func57, Tryd.ntmps57
  go_wp2
  refine wp_region_seqA (w) [(1, true), (2, true), (4, true), (0, false), (3, false), (5, false), (6, false), (7, false)] (by (try show Ex _ _); repeat (first | (with_reducible exact ex_refl _) | (with_reducible assumption) | (with_reducible refine ex_drewL ?_) | (with_reducible refine ex_appR ?_ _) | (with_reducible refine ex_wx ?_ _) | (with_reducible refine ex_drew ?_) | (with_reducible refine ex_alloc ?_ _))) (by kernel_rfl) (by kernel_rfl) (fun _ _ d _ _ h => by cases d <;> exact h) ?_
  simp only [List.map_cons, List.map_nil, nth]
  repeat (first | ((with_reducible refine wpSeq_look ?_); go_big_quiet_step (fail); (with_reducible refine wpQuiet_nil ?_)) | ((with_reducible refine wpSeq_effF ?_ ?_); (focus rfl); go_simp) | ((with_reducible refine wpSeq_eff ?_ ?_); (focus rfl); (try dsimp only); go_wp2_with (first | (go_at_call 88; (refine (put32_any m hml [2] _ _ (by simp) (by simp) (sls_one 2 (by (try show Ex _ _); repeat (first | (with_reducible exact ex_refl _) | (with_reducible assumption) | (with_reducible refine ex_drewL ?_) | (with_reducible refine ex_appR ?_ _) | (with_reducible refine ex_wx ?_ _) | (with_reducible refine ex_drew ?_) | (with_reducible refine ex_alloc ?_ _))) (by simp [go_sem]) (by rfl))).mono ?_); rintro e w2 ⟨v2, rfl, hA0, XA, rfl⟩; have hA := owns_le hA0 (Z' := (wK w d).heap.size) (by simp [go_sem] <;> omega); clear hA0; (try simp only [wx_wx, wx_drew] at hA)) | (at_builtin; refine wpAppB _ _ rfl rfl hA rfl rfl (sls_dg d (by (try show Ex _ _); repeat (first | (with_reducible exact ex_refl _) | (with_reducible assumption) | (with_reducible refine ex_drewL ?_) | (with_reducible refine ex_appR ?_ _) | (with_reducible refine ex_wx ?_ _) | (with_reducible refine ex_drew ?_) | (with_reducible refine ex_alloc ?_ _))) (by simp [go_sem])) (by simp [bytesD_len]) (by simp [go_sem] <;> omega) (fun v1 w1 hB hbe => ?_); obtain ⟨X5, rfl⟩ := exOf (A := wK w d) (by (try show Ex _ _); repeat (first | (with_reducible exact ex_refl _) | (with_reducible assumption) | (with_reducible refine ex_drewL ?_) | (with_reducible refine ex_appR ?_ _) | (with_reducible refine ex_wx ?_ _) | (with_reducible refine ex_drew ?_) | (with_reducible refine ex_alloc ?_ _))) hbe; clear hA) | (go_at_call 66; refine (sum_slt G (by (try show Ex _ _); repeat (first | (with_reducible exact ex_refl _) | (with_reducible assumption) | (with_reducible refine ex_drewL ?_) | (with_reducible refine ex_appR ?_ _) | (with_reducible refine ex_wx ?_ _) | (with_reducible refine ex_drew ?_) | (with_reducible refine ex_alloc ?_ _))) (owns_slt hB) (by simp [hiL_len, bytesD_len])).mono ?_; rintro e w2 ⟨rfl, XE, rfl⟩)); refine mixQ_mk (by (try show Ex _ _); repeat (first | (with_reducible exact ex_refl _) | (with_reducible assumption) | (with_reducible refine ex_drewL ?_) | (with_reducible refine ex_appR ?_ _) | (with_reducible refine ex_wx ?_ _) | (with_reducible refine ex_drew ?_) | (with_reducible refine ex_alloc ?_ _))) ?_))
  refine wpSeq_nil ?_
  go_wp2
  all_goals first | (exfalso; omega) | exact ret_row (cs := rowB 32 (dF R)) Tryd.results57 Tryd.underlying26 rfl info_id rfl (by rw [← HR.out]; simp [go_sem]) rfl (post_mk rfl (by (try show Ex _ _); repeat (first | (with_reducible exact ex_refl _) | (with_reducible assumption) | (with_reducible refine ex_drewL ?_) | (with_reducible refine ex_appR ?_ _) | (with_reducible refine ex_wx ?_ _) | (with_reducible refine ex_drew ?_) | (with_reducible refine ex_alloc ?_ _))))
set_option maxHeartbeats 1000000 in
theorem refcrown_any (n : Int) (d : Dg) (w : World) :
    Calls Tryd.prog 58 #[I n, .agg (rowB 32 (dF d))] w (PostL w ([2] ++ hiL (n % 4294967296).toNat 4 ++ bytesD d)) := by
  obtain ⟨m, hm⟩ : ∃ m, (n % 4294967296).toNat = m := ⟨_, rfl⟩
  have hn : n % 4294967296 = (m : Int) := by omega
  have hml : m < 4294967296 := by omega
  rw [hm]
  obtain ⟨L, hL⟩ : ∃ L, [2] ++ hiL m 4 ++ bytesD d = L := ⟨_, rfl⟩
  rw [hL]
  have HL := Lib.hid hL
  clear hm hL
  have hw : Go.bits BinOp.and IntKind.u64 (IntKind.u64.wrap n) 4294967295 = (m : Int) := by rw [IntKind.wrap_u64, and_low, hn]
  go_enter Tryd.func58, Tryd.ntmps58
  go_wp2
  have tok1 : True := trivial
  refine wp_region_two (w) [.look 1, .look 2, .look 3, .look 6, .two 0 4, .eff 5, .eff 7, .look 8] (by (try show Ex _ _); repeat (first | (with_reducible exact ex_refl _) | (with_reducible assumption) | (with_reducible refine ex_drewL ?_) | (with_reducible refine ex_appR ?_ _) | (with_reducible refine ex_wx ?_ _) | (with_reducible refine ex_drew ?_) | (with_reducible refine ex_alloc ?_ _))) (by kernel_rfl) (by kernel_rfl) (fun _ _ d _ _ h => by cases d <;> exact h) ?_
  simp only [List.map_cons, List.map_nil, ixStp, nth]
  repeat (first | ((with_reducible refine wpTwo_look ?_); go_big_quiet_step (fail); (try (with_reducible refine wpQuiet_nil ?_))) | (with_reducible refine wpTwo_eff ?_) | ((with_reducible refine effT_F ?_ ?_); (focus rfl); go_simp) | ((with_reducible refine effT_T ?_ ?_); (focus rfl); (try dsimp only); go_wp2_with (first | (go_at_call 89; (refine (refhigh m 4 _ (by omega) (by omega) (by omega)).mono ?_); rintro e w2 ⟨v2, rfl, hA, XA, rfl⟩; (try simp only [wx_wx, wx_drew] at hA)) | (go_at_call 86; have _t := tok1; clear tok1; (refine (refboth _ (sls_one 2 (by (try show Ex _ _); repeat (first | (with_reducible exact ex_refl _) | (with_reducible assumption) | (with_reducible refine ex_drewL ?_) | (with_reducible refine ex_appR ?_ _) | (with_reducible refine ex_wx ?_ _) | (with_reducible refine ex_drew ?_) | (with_reducible refine ex_alloc ?_ _))) (by simp [go_sem]) (by rfl)) (hA.ex (by (try show Ex _ _); repeat (first | (with_reducible exact ex_refl _) | (with_reducible assumption) | (with_reducible refine ex_drewL ?_) | (with_reducible refine ex_appR ?_ _) | (with_reducible refine ex_wx ?_ _) | (with_reducible refine ex_drew ?_) | (with_reducible refine ex_alloc ?_ _)))) (by simp [hiL_len]) (by simp [hiL_len])).mono ?_); rintro e w2 ⟨v3, rfl, hB, XB, rfl⟩; (try simp only [wx_wx, wx_drew] at hB)) | (go_at_call 86; (refine (refboth _ (hB.ex (by (try show Ex _ _); repeat (first | (with_reducible exact ex_refl _) | (with_reducible assumption) | (with_reducible refine ex_drewL ?_) | (with_reducible refine ex_appR ?_ _) | (with_reducible refine ex_wx ?_ _) | (with_reducible refine ex_drew ?_) | (with_reducible refine ex_alloc ?_ _)))) (sls_dg d (by (try show Ex _ _); repeat (first | (with_reducible exact ex_refl _) | (with_reducible assumption) | (with_reducible refine ex_drewL ?_) | (with_reducible refine ex_appR ?_ _) | (with_reducible refine ex_wx ?_ _) | (with_reducible refine ex_drew ?_) | (with_reducible refine ex_alloc ?_ _))) (by simp [go_sem])) (by simp [hiL_len, bytesD_len]) (by simp [hiL_len, bytesD_len])).mono ?_); rintro e w2 ⟨v4, rfl, hC, XC, rfl⟩; (try simp only [wx_wx, wx_drew] at hC))); refine mixQ_mk (by (try show Ex _ _); repeat (first | (with_reducible exact ex_refl _) | (with_reducible assumption) | (with_reducible refine ex_drewL ?_) | (with_reducible refine ex_appR ?_ _) | (with_reducible refine ex_wx ?_ _) | (with_reducible refine ex_drew ?_) | (with_reducible refine ex_alloc ?_ _))) ?_))
  all_goals (with_reducible refine wpTwo_two ?_ ?_)
  all_goals repeat (first | ((with_reducible refine wpTwo_look ?_); go_big_quiet_step (fail); (try (with_reducible refine wpQuiet_nil ?_))) | (with_reducible refine wpTwo_eff ?_) | ((with_reducible refine effT_F ?_ ?_); (focus rfl); go_simp) | ((with_reducible refine effT_T ?_ ?_); (focus rfl); (try dsimp only); go_wp2_with (first | (go_at_call 89; (refine (refhigh m 4 _ (by omega) (by omega) (by omega)).mono ?_); rintro e w2 ⟨v2, rfl, hA, XA, rfl⟩; (try simp only [wx_wx, wx_drew] at hA)) | (go_at_call 86; have _t := tok1; clear tok1; (refine (refboth _ (sls_one 2 (by (try show Ex _ _); repeat (first | (with_reducible exact ex_refl _) | (with_reducible assumption) | (with_reducible refine ex_drewL ?_) | (with_reducible refine ex_appR ?_ _) | (with_reducible refine ex_wx ?_ _) | (with_reducible refine ex_drew ?_) | (with_reducible refine ex_alloc ?_ _))) (by simp [go_sem]) (by rfl)) (hA.ex (by (try show Ex _ _); repeat (first | (with_reducible exact ex_refl _) | (with_reducible assumption) | (with_reducible refine ex_drewL ?_) | (with_reducible refine ex_appR ?_ _) | (with_reducible refine ex_wx ?_ _) | (with_reducible refine ex_drew ?_) | (with_reducible refine ex_alloc ?_ _)))) (by simp [hiL_len]) (by simp [hiL_len])).mono ?_); rintro e w2 ⟨v3, rfl, hB, XB, rfl⟩; (try simp only [wx_wx, wx_drew] at hB)) | (go_at_call 86; (refine (refboth _ (hB.ex (by (try show Ex _ _); repeat (first | (with_reducible exact ex_refl _) | (with_reducible assumption) | (with_reducible refine ex_drewL ?_) | (with_reducible refine ex_appR ?_ _) | (with_reducible refine ex_wx ?_ _) | (with_reducible refine ex_drew ?_) | (with_reducible refine ex_alloc ?_ _)))) (sls_dg d (by (try show Ex _ _); repeat (first | (with_reducible exact ex_refl _) | (with_reducible assumption) | (with_reducible refine ex_drewL ?_) | (with_reducible refine ex_appR ?_ _) | (with_reducible refine ex_wx ?_ _) | (with_reducible refine ex_drew ?_) | (with_reducible refine ex_alloc ?_ _))) (by simp [go_sem])) (by simp [hiL_len, bytesD_len]) (by simp [hiL_len, bytesD_len])).mono ?_); rintro e w2 ⟨v4, rfl, hC, XC, rfl⟩; (try simp only [wx_wx, wx_drew] at hC))); refine mixQ_mk (by (try show Ex _ _); repeat (first | (with_reducible exact ex_refl _) | (with_reducible assumption) | (with_reducible refine ex_drewL ?_) | (with_reducible refine ex_appR ?_ _) | (with_reducible refine ex_wx ?_ _) | (with_reducible refine ex_drew ?_) | (with_reducible refine ex_alloc ?_ _))) ?_))
  all_goals (with_reducible refine wpTwo_nil ?_)
  all_goals
    go_wp2
    go_ret
    exact ⟨_, rfl, by rw [← HL.out]; exact hC.ex (by (try show Ex _ _); repeat (first | (with_reducible exact ex_refl _) | (with_reducible assumption) | (with_reducible refine ex_drewL ?_) | (with_reducible refine ex_appR ?_ _) | (with_reducible refine ex_wx ?_ _) | (with_reducible refine ex_drew ?_) | (with_reducible refine ex_alloc ?_ _))), (by (try show Ex _ _); repeat (first | (with_reducible exact ex_refl _) | (with_reducible assumption) | (with_reducible refine ex_drewL ?_) | (with_reducible refine ex_appR ?_ _) | (with_reducible refine ex_wx ?_ _) | (with_reducible refine ex_drew ?_) | (with_reducible refine ex_alloc ?_ _)))⟩
end Go.Proofs.YtbobamifpjlmiaaDoor
