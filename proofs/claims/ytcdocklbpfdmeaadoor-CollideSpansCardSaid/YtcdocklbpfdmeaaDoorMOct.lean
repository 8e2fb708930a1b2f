import Derived.Test.YtcdocklbpfdmeaaDoorMChk
import Derived.Lib.AppendStr
import Derived.Test.YtcdocklbpfdmeaaDoorMDg
import Derived.Test.YtcdocklbpfdmeaaDoorMSeq
import Derived.Laws.IdiomStrings
import Derived.Laws.BitsAllLaws

/- Bytes behind bytes, numbers in bytes: both texts. -/
set_option linter.unusedSimpArgs false
set_option linter.unusedVariables false
set_option maxRecDepth 20000
namespace Go.Proofs.YtcdocklbpfdmeaaDoor
open Go.RowKit
/-- Bytes of the call's own, handed back. -/
def PostB (W : World) (n : Nat) (l : List UInt8) (e : Ending) (w' : World) : Prop := ∃ v, e = .returned v ∧ w'.ownsRow W.heap.size 5 1 v n (Lib.byteCells l) ∧ ∃ X, w' = wx W X
theorem owns_sls {w : World} {Z : Nat} {v : Value} {n : Nat} {l : List UInt8} (h : w.ownsRow Z 5 1 v n (Lib.byteCells l)) (hn : 0 < n) : SlS w v l := by
  obtain ⟨a, c, h1, h2, h3, h4, h5⟩ := (owns_slt h).out
  cases a with
  | none =>
    have hl : l.length = n := by have := h.1; simpa [Lib.byteCells] using this
    have := h4 rfl
    omega
  | some ad => exact ⟨ad, c, h1, h2, h3, h5⟩
end Go.Proofs.YtcdocklbpfdmeaaDoor

/- Numbers behind bytes. -/
set_option linter.unusedSimpArgs false
set_option linter.unusedVariables false
set_option maxRecDepth 20000
namespace Go.Proofs.YtcdocklbpfdmeaaDoor
open Go.RowKit
theorem row_over_take (l : List UInt8) (n m : Nat) (z : Nat → UInt8) (hn : l.length = n) : Lib.byteCells l = (rowB (n + m) (over z 0 n (gF l))).toList.take (n * 1) := by
  subst hn
  rw [← rowB_list, Nat.mul_one]
  apply List.ext_getElem?
  intro i
  rw [List.getElem?_take, Array.getElem?_toList, Array.getElem?_toList, rowB_get, rowB_get]
  by_cases h : i < l.length
  · rw [if_pos h, if_pos h, if_pos (by omega)]
    unfold over
    simp [h]
  · rw [if_neg h, if_neg h]
theorem hiL_snoc (x n k : Nat) (hk : k < n) : (hiL x n).take (k + 1) = (hiL x n).take k ++ [UInt8.ofNat (x / 256 ^ (n - 1 - k))] := by
  rw [List.take_add_one]
  congr 1
  unfold hiL
  rw [List.getElem?_map, List.getElem?_range hk]; rfl
theorem hiL_all (x n : Nat) : (hiL x n).take n = hiL x n := List.take_of_length_le (by rw [hiL_len]; omega)
theorem put16_in (x : Nat) (hx : x < 65536) (l : List UInt8) (v : Value) (w : World) (hl : l.length ≤ 1000000) (h0 : 0 < l.length) (hs : SlS w v l) :
    Calls Tryd.prog 149 #[v, .int .u16 x, I 2] w (PostB w (l.length + 2) (l ++ hiL x 2)) := by
  obtain ⟨a, c, rfl, k1, k2, k3⟩ := hs.out
  obtain ⟨g, off, h1, hg, hc⟩ := SlB.pos k3 h0
  cases h1
  have hcn := SlB.cells hc 0 l.length (by omega)
  rw [Nat.add_zero] at hcn
  obtain ⟨n, hn⟩ : ∃ n, l.length = n := ⟨_, rfl⟩
  have HN := Lib.hid hn
  rw [hn] at hcn hl h0 k1 ⊢
  clear hn hs hc k3
  have e1 : (n : Int) ≤ (n : Int) + 2 := by omega
  have e2 : (n : Int) + 2 ≤ 281474976710656 := by omega
  go_enter Tryd.func149, Tryd.ntmps149
  go_wp2
  go_loopw [7, 8] (fun v i wr => ∃ k : Nat, k ≤ 2 ∧ i = I (8 * (2 - 1 - k : Int)) ∧ Hid (wr.ownsRow w.heap.size 5 1 v (n + k) (Lib.byteCells (l ++ (hiL x 2).take k))) ∧ Ex w wr) (fun _ i _ => (intOf i + 8).toNat)
  case atStart =>
    refine ⟨0, by omega, by simp, Lib.hid ?_, (by (try show Ex _ _); with_reducible repeat (first | exact ex_refl _ | assumption | refine ex_drewL ?_ | refine ex_appR ?_ _ | refine ex_wx ?_ _ | refine ex_drew ?_ | refine ex_alloc ?_ _))⟩
    rw [List.take_zero, List.append_nil]
    exact owns_new (cap := n + 2) rfl (Nat.le_refl _) (by omega) (by unfold maxLen; omega) (by simp) (row_over_take l n 2 _ HN.out)
  case round =>
    obtain ⟨k, hk, rfl, hown, X, rfl⟩ := hrel
    by_cases hlt : k < 2
    · have hz := ex_size (show Ex w (wx w X) from ⟨X, rfl⟩)
      have HS := hiL_snoc x 2 k hlt
      obtain ⟨j, hj⟩ : ∃ j, k + 1 = j := ⟨_, rfl⟩
      rw [hj] at HS
      obtain ⟨b, hb⟩ : ∃ b, UInt8.ofNat (x / 256 ^ (2 - 1 - k)) = b := ⟨_, rfl⟩
      rw [hb] at HS
      replace HS := Lib.hid HS
      have HZ : Hid (bn b = ((x / 256 ^ (2 - 1 - k) : Nat) : Int) % 256) := Lib.hid (by rw [← hb]; simp [bn])
      have HL : Hid (((hiL x 2).take k).length = k) := Lib.hid (by rw [List.length_take, hiL_len]; omega)
      clear hb
      obtain ⟨q, hq⟩ : ∃ q : Int, (8 : Int) * (2 - 1 - k) = q := ⟨_, rfl⟩
      rw [hq]
      rcases (show (k = 0 ∧ q = 8 ∧ j = 1) ∨ (k = 1 ∧ q = 0 ∧ j = 2) by omega) with (⟨rfl, rfl, hj2⟩ | ⟨rfl, rfl, hj2⟩)
      all_goals clear hq hk hlt hj
      all_goals
        go_wp2_with (at_builtin; refine wpAppB _ _ rfl rfl (owns_ex hown.out (by (try show Ex _ _); with_reducible repeat (first | exact ex_refl _ | assumption | refine ex_drewL ?_ | refine ex_appR ?_ _ | refine ex_wx ?_ _ | refine ex_drew ?_ | refine ex_alloc ?_ _))) rfl rfl (sls_one b (by (try show Ex _ _); with_reducible repeat (first | exact ex_refl _ | assumption | refine ex_drewL ?_ | refine ex_appR ?_ _ | refine ex_wx ?_ _ | refine ex_drew ?_ | refine ex_alloc ?_ _)) (by simp [go_sem]) (by have h := HZ.out; simp at h ⊢; omega)) (by simp; omega) (by simp [go_sem] <;> omega) (fun v1 w1 hown1 hbe => ?_))
      all_goals
        refine ⟨⟨j, by omega, by rw [hj2]; rfl, Lib.hid (by rw [HS.out, ← List.append_assoc]; subst hj2; exact hown1), ex_of_below ((ex_below (by (try show Ex _ _); with_reducible repeat (first | exact ex_refl _ | assumption | refine ex_drewL ?_ | refine ex_appR ?_ _ | refine ex_wx ?_ _ | refine ex_drew ?_ | refine ex_alloc ?_ _))).trans hbe)⟩, by simp [intOf]⟩
    · obtain rfl : k = 2 := by omega
      clear hlt hk
      go_wp2
      go_ret
      refine ⟨_, rfl, ?_, (by (try show Ex _ _); with_reducible repeat (first | exact ex_refl _ | assumption | refine ex_drewL ?_ | refine ex_appR ?_ _ | refine ex_wx ?_ _ | refine ex_drew ?_ | refine ex_alloc ?_ _))⟩
      have := hown.out
      rwa [hiL_all] at this
set_option maxHeartbeats 1000000 in
theorem put32_in (x : Nat) (hx : x < 4294967296) (l : List UInt8) (v : Value) (w : World) (hl : l.length ≤ 1000000) (h0 : 0 < l.length) (hs : SlS w v l) :
    Calls Tryd.prog 135 #[v, .int .u32 x, I 4] w (PostB w (l.length + 4) (l ++ hiL x 4)) := by
  obtain ⟨a, c, rfl, k1, k2, k3⟩ := hs.out
  obtain ⟨g, off, h1, hg, hc⟩ := SlB.pos k3 h0
  cases h1
  have hcn := SlB.cells hc 0 l.length (by omega)
  rw [Nat.add_zero] at hcn
  obtain ⟨n, hn⟩ : ∃ n, l.length = n := ⟨_, rfl⟩
  have HN := Lib.hid hn
  rw [hn] at hcn hl h0 k1 ⊢
  clear hn hs hc k3
  have e1 : (n : Int) ≤ (n : Int) + 4 := by omega
  have e2 : (n : Int) + 4 ≤ 281474976710656 := by omega
  go_enter Tryd.func135, Tryd.ntmps135
  go_wp2
  go_loopw [7, 8] (fun v i wr => ∃ k : Nat, k ≤ 4 ∧ i = I (8 * (4 - 1 - k : Int)) ∧ Hid (wr.ownsRow w.heap.size 5 1 v (n + k) (Lib.byteCells (l ++ (hiL x 4).take k))) ∧ Ex w wr) (fun _ i _ => (intOf i + 8).toNat)
  case atStart =>
    refine ⟨0, by omega, by simp, Lib.hid ?_, (by (try show Ex _ _); with_reducible repeat (first | exact ex_refl _ | assumption | refine ex_drewL ?_ | refine ex_appR ?_ _ | refine ex_wx ?_ _ | refine ex_drew ?_ | refine ex_alloc ?_ _))⟩
    rw [List.take_zero, List.append_nil]
    exact owns_new (cap := n + 4) rfl (Nat.le_refl _) (by omega) (by unfold maxLen; omega) (by simp) (row_over_take l n 4 _ HN.out)
  case round =>
    obtain ⟨k, hk, rfl, hown, X, rfl⟩ := hrel
    by_cases hlt : k < 4
    · have hz := ex_size (show Ex w (wx w X) from ⟨X, rfl⟩)
      have HS := hiL_snoc x 4 k hlt
      obtain ⟨j, hj⟩ : ∃ j, k + 1 = j := ⟨_, rfl⟩
      rw [hj] at HS
      obtain ⟨b, hb⟩ : ∃ b, UInt8.ofNat (x / 256 ^ (4 - 1 - k)) = b := ⟨_, rfl⟩
      rw [hb] at HS
      replace HS := Lib.hid HS
      have HZ : Hid (bn b = ((x / 256 ^ (4 - 1 - k) : Nat) : Int) % 256) := Lib.hid (by rw [← hb]; simp [bn])
      have HL : Hid (((hiL x 4).take k).length = k) := Lib.hid (by rw [List.length_take, hiL_len]; omega)
      clear hb
      obtain ⟨q, hq⟩ : ∃ q : Int, (8 : Int) * (4 - 1 - k) = q := ⟨_, rfl⟩
      rw [hq]
      rcases (show (k = 0 ∧ q = 24 ∧ j = 1) ∨ (k = 1 ∧ q = 16 ∧ j = 2) ∨ (k = 2 ∧ q = 8 ∧ j = 3) ∨ (k = 3 ∧ q = 0 ∧ j = 4) by omega) with (⟨rfl, rfl, hj2⟩ | ⟨rfl, rfl, hj2⟩ | ⟨rfl, rfl, hj2⟩ | ⟨rfl, rfl, hj2⟩)
      all_goals clear hq hk hlt hj
      all_goals
        go_wp2_with (at_builtin; refine wpAppB _ _ rfl rfl (owns_ex hown.out (by (try show Ex _ _); with_reducible repeat (first | exact ex_refl _ | assumption | refine ex_drewL ?_ | refine ex_appR ?_ _ | refine ex_wx ?_ _ | refine ex_drew ?_ | refine ex_alloc ?_ _))) rfl rfl (sls_one b (by (try show Ex _ _); with_reducible repeat (first | exact ex_refl _ | assumption | refine ex_drewL ?_ | refine ex_appR ?_ _ | refine ex_wx ?_ _ | refine ex_drew ?_ | refine ex_alloc ?_ _)) (by simp [go_sem]) (by have h := HZ.out; simp at h ⊢; omega)) (by simp; omega) (by simp [go_sem] <;> omega) (fun v1 w1 hown1 hbe => ?_))
      all_goals
        refine ⟨⟨j, by omega, by rw [hj2]; rfl, Lib.hid (by rw [HS.out, ← List.append_assoc]; subst hj2; exact hown1), ex_of_below ((ex_below (by (try show Ex _ _); with_reducible repeat (first | exact ex_refl _ | assumption | refine ex_drewL ?_ | refine ex_appR ?_ _ | refine ex_wx ?_ _ | refine ex_drew ?_ | refine ex_alloc ?_ _))).trans hbe)⟩, by simp [intOf]⟩
    · obtain rfl : k = 4 := by omega
      clear hlt hk
      go_wp2
      go_ret
      refine ⟨_, rfl, ?_, (by (try show Ex _ _); with_reducible repeat (first | exact ex_refl _ | assumption | refine ex_drewL ?_ | refine ex_appR ?_ _ | refine ex_wx ?_ _ | refine ex_drew ?_ | refine ex_alloc ?_ _))⟩
      have := hown.out
      rwa [hiL_all] at this
theorem put16_any (x : Nat) (hx : x < 65536) (l : List UInt8) (v : Value) (w : World) (hl : l.length ≤ 1000000) (h0 : 0 < l.length) (hs : SlS w v l) :
    Calls Tryd.prog 137 #[v, .int .u16 x] w (PostB w (l.length + 2) (l ++ hiL x 2)) := by
  go_enter Tryd.func137, Tryd.ntmps137
  go_wp2_with (go_at_call 149; refine (put16_in x hx l v _ hl h0 (hs.ex (by (try show Ex _ _); with_reducible repeat (first | exact ex_refl _ | assumption | refine ex_drewL ?_ | refine ex_appR ?_ _ | refine ex_wx ?_ _ | refine ex_drew ?_ | refine ex_alloc ?_ _)))).mono ?_; rintro e w2 ⟨v2, rfl, hown, X, rfl⟩)
  go_ret
  exact ⟨_, rfl, hown, (by (try show Ex _ _); with_reducible repeat (first | exact ex_refl _ | assumption | refine ex_drewL ?_ | refine ex_appR ?_ _ | refine ex_wx ?_ _ | refine ex_drew ?_ | refine ex_alloc ?_ _))⟩
theorem put32_any (x : Nat) (hx : x < 4294967296) (l : List UInt8) (v : Value) (w : World) (hl : l.length ≤ 1000000) (h0 : 0 < l.length) (hs : SlS w v l) :
    Calls Tryd.prog 101 #[v, .int .u32 x] w (PostB w (l.length + 4) (l ++ hiL x 4)) := by
  go_enter Tryd.func101, Tryd.ntmps101
  go_wp2_with (go_at_call 135; refine (put32_in x hx l v _ hl h0 (hs.ex (by (try show Ex _ _); with_reducible repeat (first | exact ex_refl _ | assumption | refine ex_drewL ?_ | refine ex_appR ?_ _ | refine ex_wx ?_ _ | refine ex_drew ?_ | refine ex_alloc ?_ _)))).mono ?_; rintro e w2 ⟨v2, rfl, hown, X, rfl⟩)
  go_ret
  exact ⟨_, rfl, hown, (by (try show Ex _ _); with_reducible repeat (first | exact ex_refl _ | assumption | refine ex_drewL ?_ | refine ex_appR ?_ _ | refine ex_wx ?_ _ | refine ex_drew ?_ | refine ex_alloc ?_ _))⟩
end Go.Proofs.YtcdocklbpfdmeaaDoor

/- What is digested of pairs and digests: both texts. -/
set_option linter.unusedSimpArgs false
set_option linter.unusedVariables false
set_option maxRecDepth 20000
namespace Go.Proofs.YtcdocklbpfdmeaaDoor
open Go.RowKit
theorem str_cells (s : ByteArray) : Lib.strCells s = Lib.byteCells s.data.toList := rfl
theorem wpAppStr {ops : Array Oper} {rest : List Oper} {o : Oper} {a : Act} {w : World} {Q : Exit → Act → World → Prop} (s x : Operand) (hgd : o.guard = none)
    (ho : o.op = .call { callee := .builtin .append, args := #[s, x], argTypes := #[35, 9] })
    {Z : Nat} {v : Value} {n : Nat} {l : List UInt8} (hown : w.ownsRow Z 5 1 v n (Lib.byteCells l)) (hs : a.eval s = v) (st : ByteArray) (hx : a.eval x = .string st) (hlen : n + st.size ≤ 140737488355328) (hZ : Z ≤ w.heap.size)
    (h : ∀ v' w', w'.ownsRow Z 5 1 v' (n + st.size) (Lib.byteCells (l ++ st.data.toList)) → Below Z w w' → wpList Tryd.prog ops Q rest (a.put o.dst v') w') : wpList Tryd.prog ops Q (o :: rest) a w := by
  obtain ⟨i, hi, h1', h2', h3'⟩ := info_parts appu8.hi
  refine Lib.wpList_append_own_string w hgd s x _ _ ho Z 5 i appu8.ht Tryd.underlying9 hi h1' h2' h3' v n _ hs hown st hx (by unfold maxLen; omega) hlen hZ fun v' w' k1 k2 _ => ?_
  rw [str_cells, bytes_app] at k1
  exact h v' w' k1 (below_app hown k2 hZ)
theorem str_len (s : ByteArray) : s.data.toList.length = s.size := Array.length_toList
theorem owns_le {w : World} {Z Z' : Nat} {t : TypeId} {s : Nat} {v : Value} {n : Nat} {xs : List Value} (h : w.ownsRow Z t s v n xs) (hz : Z' ≤ Z) : w.ownsRow Z' t s v n xs := by
  refine ⟨h.1, ?_⟩
  rcases h.2 with h | ⟨g, cap, cur, h1, h2, h3⟩
  · exact .inl h
  · exact .inr ⟨g, cap, cur, h1, by omega, h3⟩
theorem leaf_len (s : ByteArray) : (someL s).length = 2 + min s.size 65535 := by
  unfold someL
  rw [List.length_append, hiL_len, List.length_take, Array.length_toList, Nat.min_comm]
  rfl
end Go.Proofs.YtcdocklbpfdmeaaDoor

/- Collide: the bytes of a leaf, of two, of a pair, of a crown; equal bytes: both texts. -/
set_option linter.unusedSimpArgs false
set_option linter.unusedVariables false
set_option linter.unnecessarySimpa false
set_option maxRecDepth 20000
namespace Go.Proofs.YtcdocklbpfdmeaaDoor
open Go.RowKit
/-- Bytes of a block of bytes, handed back. -/
def OwnU (w : World) (v : Value) (l : List UInt8) : Prop := w.ownsRow 0 5 1 v l.length (Lib.byteCells l)
theorem ownu_of {w : World} {Z n : Nat} {v : Value} {l : List UInt8} (h : w.ownsRow Z 5 1 v n (Lib.byteCells l)) : OwnU w v l := by
  have hn : l.length = n := by have := h.1; simpa [Lib.byteCells] using this
  subst hn
  exact owns_le h (Nat.zero_le _)
theorem OwnU.slt {w : World} {v : Value} {l : List UInt8} (h : OwnU w v l) : SlT w v l := owns_slt h
theorem OwnU.ex {w w' : World} {v : Value} {l : List UInt8} (h : OwnU w v l) (k : Ex w w') : OwnU w' v l := owns_ex h k
def PostU (W : World) (l : List UInt8) (e : Ending) (w' : World) : Prop := ∃ v, e = .returned v ∧ OwnU w' v l ∧ ∃ X, w' = wx W X
theorem concat3U {W W2 : World} {g : Nat} {t : TypeId} {v0 v1 v2 : Value} {x y z : List UInt8} (k : Ex (W.alloc (.cells #[v0, v1, v2] t)) W2) (hg : g = W.heap.size) (h0 : SlS W2 v0 x) (h1 : SlS W2 v1 y) (h2 : SlS W2 v2 z) (hl : x.length + (y.length + z.length) ≤ 140737488355328) :
    Calls Tryd.prog 145 #[.slice (some ⟨g, 0, none⟩) 3 3] W2 (PostU W2 (x ++ (y ++ z))) := by
  subst hg
  rw [← cat3]
  have hb := ex_block k (heap_alloc_new W (.cells #[v0, v1, v2] t))
  refine (concat_own _ 3 3 (at3 v0 v1 v2) (at3 x y z) _ (by omega) (by decide) ⟨Or.inr ⟨_, 0, rfl, (Array.getElem?_eq_some_iff.1 hb).1, fun i hi => ?_⟩⟩ (fun i hi => ?_) (fun q hq => ?_)).mono fun e w' ⟨v, h1, h2, h3⟩ => ⟨v, h1, ownu_of h2, h3⟩
  · rw [Nat.zero_add, cell_of_row _ W.heap.size i _ _ _ hb]
    have : i = 0 ∨ i = 1 ∨ i = 2 := by omega
    rcases this with rfl | rfl | rfl <;> rfl
  · have : i = 0 ∨ i = 1 ∨ i = 2 := by omega
    rcases this with rfl | rfl | rfl
    · exact h0
    · exact h1
    · exact h2
  · have : q = 0 ∨ q = 1 ∨ q = 2 ∨ q = 3 := by omega
    rcases this with rfl | rfl | rfl | rfl <;> simp [catL, at3, List.range_succ] <;> omega
theorem conv_slt {w : World} {v : Value} {l : List UInt8} (h : SlT w v l) : (convert 35 9 v).run Tryd.prog w = .ok (.string ⟨l.toArray⟩) w := by
  obtain ⟨a, c, rfl, h1, h2, h3, h4⟩ := h.out
  cases a with
  | none =>
    obtain rfl := h3 rfl
    obtain rfl : l = [] := List.eq_nil_of_length_eq_zero (by omega)
    rw [List.length_nil, Lib.run_convert_nil_bytes w _ _ _ 0 Tryd.underlying35 Tryd.underlying5 Tryd.underlying9]
  | some ad =>
    refine run_convert_bytes_back w _ _ _ ad c l Tryd.underlying35 Tryd.underlying5 Tryd.underlying9 fun j hj => ?_
    exact sll_news h4 (ex_refl _) j _ (by simp [Lib.byteCells, List.getElem?_eq_getElem hj])
theorem bytesEq_any {l m : List UInt8} {v u : Value} {w : World} (hs : SlT w v l) (ht : SlT w u m) :
    Calls Tryd.prog 35 #[v, u] w (Post w (.bool (decide (l = m)))) := by
  have c1 := conv_slt hs
  have c2 := conv_slt ht
  have e1 : (l == m) = decide (l = m) := by rw [Bool.eq_iff_iff, beq_iff_eq, decide_eq_true_eq]
  rw [← e1]
  clear hs ht e1
  go_enter Tryd.func35, Tryd.ntmps35
  go_wp2
  go_ret
  exact post_mk rfl (by (try show Ex _ _); with_reducible repeat (first | exact ex_refl _ | assumption | refine ex_drewL ?_ | refine ex_appR ?_ _ | refine ex_wx ?_ _ | refine ex_drew ?_ | refine ex_alloc ?_ _))
theorem sameB_any {l m : List UInt8} {v u : Value} {w : World} (hs : SlT w v l) (ht : SlT w u m) :
    Calls Tryd.prog 71 #[v, u] w (Post w (.bool (decide (l = m)))) := by
  have c1 := conv_slt hs
  have c2 := conv_slt ht
  have e1 : (l == m) = decide (l = m) := by rw [Bool.eq_iff_iff, beq_iff_eq, decide_eq_true_eq]
  rw [← e1]
  clear hs ht e1
  go_enter Tryd.func71, Tryd.ntmps71
  go_wp2
  go_ret
  exact post_mk rfl (by (try show Ex _ _); with_reducible repeat (first | exact ex_refl _ | assumption | refine ex_drewL ?_ | refine ex_appR ?_ _ | refine ex_wx ?_ _ | refine ex_drew ?_ | refine ex_alloc ?_ _))
set_option maxHeartbeats 1000000 in
theorem leafB_any {v : Value} {l : List UInt8} (hl : l.length ≤ 100000) (w : World) (hv : SlT w v l) :
    Calls Tryd.prog 118 #[v] w (PostU w (0 :: l)) := by
  obtain ⟨a, c, rfl, h1, h2, h3, h4⟩ := hv.out
  cases a with
  | none =>
    obtain rfl := h3 rfl
    obtain rfl : l = [] := List.eq_nil_of_length_eq_zero (by omega)
    rw [List.length_nil]
    go_enter Tryd.func118, Tryd.ntmps118
    go_wp2
    go_ret
    exact ⟨_, rfl, ownu_of (owns_one (Z := w.heap.size) 0 (by (try show Ex _ _); with_reducible repeat (first | exact ex_refl _ | assumption | refine ex_drewL ?_ | refine ex_appR ?_ _ | refine ex_wx ?_ _ | refine ex_drew ?_ | refine ex_alloc ?_ _)) (by simp [go_sem]) (by rfl) (by simp [go_sem])), (by (try show Ex _ _); with_reducible repeat (first | exact ex_refl _ | assumption | refine ex_drewL ?_ | refine ex_appR ?_ _ | refine ex_wx ?_ _ | refine ex_drew ?_ | refine ex_alloc ?_ _))⟩
  | some ad =>
    have hs : SlS w (.slice (some ad) l.length c) l := ⟨_, _, rfl, h1, h2, h4⟩
    clear hv h4 h3
    go_enter Tryd.func118, Tryd.ntmps118
    go_wp2_with (at_builtin; refine wpAppB _ _ rfl rfl (owns_one (Z := w.heap.size) 0 (by (try show Ex _ _); with_reducible repeat (first | exact ex_refl _ | assumption | refine ex_drewL ?_ | refine ex_appR ?_ _ | refine ex_wx ?_ _ | refine ex_drew ?_ | refine ex_alloc ?_ _)) (by simp [go_sem]) (by rfl) (by simp [go_sem])) rfl rfl (hs.ex (by (try show Ex _ _); with_reducible repeat (first | exact ex_refl _ | assumption | refine ex_drewL ?_ | refine ex_appR ?_ _ | refine ex_wx ?_ _ | refine ex_drew ?_ | refine ex_alloc ?_ _))) (by omega) (by simp [go_sem]) (fun v1 w1 hown hbe => ?_); obtain ⟨X1, rfl⟩ := exOf (A := w) (by (try show Ex _ _); with_reducible repeat (first | exact ex_refl _ | assumption | refine ex_drewL ?_ | refine ex_appR ?_ _ | refine ex_wx ?_ _ | refine ex_drew ?_ | refine ex_alloc ?_ _)) hbe)
    go_ret
    exact ⟨_, rfl, ownu_of hown, (by (try show Ex _ _); with_reducible repeat (first | exact ex_refl _ | assumption | refine ex_drewL ?_ | refine ex_appR ?_ _ | refine ex_wx ?_ _ | refine ex_drew ?_ | refine ex_alloc ?_ _))⟩
set_option maxHeartbeats 1000000 in
theorem two_any (a b : Dg) (w : World) :
    Calls Tryd.prog 134 #[.agg (rowB 32 (dF a)), .agg (rowB 32 (dF b))] w (PostU w (twoL a b)) := by
  go_enter Tryd.func134, Tryd.ntmps134
  go_wp2
  refine wp_region_mix [(1, true), (2, true), (0, false), (3, false), (4, false), (5, true)] 6 (by kernel_rfl) (by kernel_rfl) (fun _ _ d _ _ h => by cases d <;> exact h) ?_
  simp only [List.map_cons, List.map_nil, nth, List.drop_succ_cons, List.drop_zero]
  repeat (first | (refine wpMix_look ?_; go_big_quiet_step (fail); refine wpQuiet_nil ?_) | (refine wpMix_eff rfl (fun X1 => ?_); go_wp2_with (first | (go_at_call 145; refine (concat3U (by (try show Ex _ _); with_reducible repeat (first | exact ex_refl _ | assumption | refine ex_drewL ?_ | refine ex_appR ?_ _ | refine ex_wx ?_ _ | refine ex_drew ?_ | refine ex_alloc ?_ _)) (by simp [go_sem]) (sls_one 1 (by (try show Ex _ _); with_reducible repeat (first | exact ex_refl _ | assumption | refine ex_drewL ?_ | refine ex_appR ?_ _ | refine ex_wx ?_ _ | refine ex_drew ?_ | refine ex_alloc ?_ _)) (by simp [go_sem]) (by rfl)) (sls_dg a (by (try show Ex _ _); with_reducible repeat (first | exact ex_refl _ | assumption | refine ex_drewL ?_ | refine ex_appR ?_ _ | refine ex_wx ?_ _ | refine ex_drew ?_ | refine ex_alloc ?_ _)) (by simp [go_sem])) (sls_dg b (by (try show Ex _ _); with_reducible repeat (first | exact ex_refl _ | assumption | refine ex_drewL ?_ | refine ex_appR ?_ _ | refine ex_wx ?_ _ | refine ex_drew ?_ | refine ex_alloc ?_ _)) (by simp [go_sem])) (by simp [bytesD_len])).mono ?_; rintro e w2 ⟨v, rfl, hsl, X, rfl⟩; (try simp only [wx_wx] at hsl))); refine mixQ_mk (by first | exact ex_refl _ | exact ⟨_, rfl⟩ | exact ex_app _ _ _ | (simp only [wx_wx, wx_drew]; first | exact ex_refl _ | exact ex_app _ _ _ | exact ⟨_, rfl⟩) | (repeat (first | exact ex_refl _ | refine ex_drew ?_ | refine ex_alloc ?_ _ | refine ex_wx ?_ _))) ?_))
  refine wpMix_nil (fun X2 => ?_)
  go_wp2
  go_ret
  exact ⟨_, rfl, hsl.ex (by (try show Ex _ _); with_reducible repeat (first | exact ex_refl _ | assumption | refine ex_drewL ?_ | refine ex_appR ?_ _ | refine ex_wx ?_ _ | refine ex_drew ?_ | refine ex_alloc ?_ _)), (by (try show Ex _ _); with_reducible repeat (first | exact ex_refl _ | assumption | refine ex_drewL ?_ | refine ex_appR ?_ _ | refine ex_wx ?_ _ | refine ex_drew ?_ | refine ex_alloc ?_ _))⟩
set_option maxHeartbeats 1000000 in
theorem reftwo_any (a b : Dg) (w : World) :
    Calls Tryd.prog 81 #[.agg (rowB 32 (dF a)), .agg (rowB 32 (dF b))] w (PostU w (twoL a b)) := by
  go_enter Tryd.func81, Tryd.ntmps81
  go_wp2
  refine wp_region_seqA (w) [(1, true), (3, true), (0, false), (2, false), (4, false), (5, true)] (by (try show Ex _ _); with_reducible repeat (first | exact ex_refl _ | assumption | refine ex_drewL ?_ | refine ex_appR ?_ _ | refine ex_wx ?_ _ | refine ex_drew ?_ | refine ex_alloc ?_ _)) (by kernel_rfl) (by kernel_rfl) (fun _ _ d _ _ h => by cases d <;> exact h) ?_
  simp only [List.map_cons, List.map_nil, nth]
  repeat (first | ((with_reducible refine wpSeq_look ?_); go_big_quiet_step (fail); (with_reducible refine wpQuiet_nil ?_)) | ((with_reducible refine wpSeq_effF ?_ ?_); (focus rfl); go_simp) | ((with_reducible refine wpSeq_eff ?_ ?_); (focus rfl); (try dsimp only); go_wp2_with (first | (at_builtin; refine wpAppB _ _ rfl rfl hown rfl rfl (sls_dg b (by (try show Ex _ _); with_reducible repeat (first | exact ex_refl _ | assumption | refine ex_drewL ?_ | refine ex_appR ?_ _ | refine ex_wx ?_ _ | refine ex_drew ?_ | refine ex_alloc ?_ _)) (by simp [go_sem])) (by simp [bytesD_len]) (by simp [go_sem]) (fun v2 w2 hown2 hbe2 => ?_); obtain ⟨X2, rfl⟩ := exOf (by (try show Ex _ _); with_reducible repeat (first | exact ex_refl _ | assumption | refine ex_drewL ?_ | refine ex_appR ?_ _ | refine ex_wx ?_ _ | refine ex_drew ?_ | refine ex_alloc ?_ _)) hbe2) | (at_builtin; refine wpAppB _ _ rfl rfl (owns_one (Z := ((w.alloc (.cells (rowB 32 (dF a)) 46)).alloc (.cells (rowB 32 (dF b)) 46)).heap.size) 1 (by (try show Ex _ _); with_reducible repeat (first | exact ex_refl _ | assumption | refine ex_drewL ?_ | refine ex_appR ?_ _ | refine ex_wx ?_ _ | refine ex_drew ?_ | refine ex_alloc ?_ _)) (by simp [go_sem]) (by rfl) (by simp [go_sem])) rfl rfl (sls_dg a (by (try show Ex _ _); with_reducible repeat (first | exact ex_refl _ | assumption | refine ex_drewL ?_ | refine ex_appR ?_ _ | refine ex_wx ?_ _ | refine ex_drew ?_ | refine ex_alloc ?_ _)) (by simp [go_sem])) (by simp [bytesD_len]) (by simp [go_sem]) (fun v1 w1 hown hbe => ?_); obtain ⟨X1, rfl⟩ := exOf (by (try show Ex _ _); with_reducible repeat (first | exact ex_refl _ | assumption | refine ex_drewL ?_ | refine ex_appR ?_ _ | refine ex_wx ?_ _ | refine ex_drew ?_ | refine ex_alloc ?_ _)) hbe)); refine mixQ_mk (by (try show Ex _ _); with_reducible repeat (first | exact ex_refl _ | assumption | refine ex_drewL ?_ | refine ex_appR ?_ _ | refine ex_wx ?_ _ | refine ex_drew ?_ | refine ex_alloc ?_ _)) ?_))
  refine wpSeq_nil ?_
  go_wp2
  go_ret
  refine ⟨_, rfl, ?_, (by (try show Ex _ _); with_reducible repeat (first | exact ex_refl _ | assumption | refine ex_drewL ?_ | refine ex_appR ?_ _ | refine ex_wx ?_ _ | refine ex_drew ?_ | refine ex_alloc ?_ _))⟩
  have := ownu_of hown2
  unfold twoL
  simpa using OwnU.ex this (by (try show Ex _ _); with_reducible repeat (first | exact ex_refl _ | assumption | refine ex_drewL ?_ | refine ex_appR ?_ _ | refine ex_wx ?_ _ | refine ex_drew ?_ | refine ex_alloc ?_ _))
abbrev wKc (w : World) (d : Dg) : World := w.alloc (.cells (rowB 32 (dF d)) 46)
def crownL (m : Nat) (d : Dg) : List UInt8 := [2] ++ hiL m 4 ++ bytesD d
set_option maxHeartbeats 1000000 in
theorem crownB_any (m : Nat) (hm : m ≤ 1000000) (d : Dg) (w : World) :
    Calls Tryd.prog 77 #[I m, .agg (rowB 32 (dF d))] w (PostU w (crownL m d)) := by
  have hn : (m : Int) % 4294967296 = (m : Int) := by omega
  have hml : m < 4294967296 := by omega
  go_enter Tryd.func77, Tryd.ntmps77
  go_wp2
  refine wp_region_seqA (w) [(1, true), (2, true), (4, true), (0, false), (3, false), (5, false), (6, true)] (by (try show Ex _ _); with_reducible repeat (first | exact ex_refl _ | assumption | refine ex_drewL ?_ | refine ex_appR ?_ _ | refine ex_wx ?_ _ | refine ex_drew ?_ | refine ex_alloc ?_ _)) (by kernel_rfl) (by kernel_rfl) (fun _ _ d _ _ h => by cases d <;> exact h) ?_
  simp only [List.map_cons, List.map_nil, nth]
  repeat (first | ((with_reducible refine wpSeq_look ?_); go_big_quiet_step (fail); (with_reducible refine wpQuiet_nil ?_)) | ((with_reducible refine wpSeq_effF ?_ ?_); (focus rfl); go_simp) | ((with_reducible refine wpSeq_eff ?_ ?_); (focus rfl); (try dsimp only); go_wp2_with (first | (go_at_call 101; (refine (put32_any m hml [2] _ _ (by simp) (by simp) (sls_one 2 (by (try show Ex _ _); with_reducible repeat (first | exact ex_refl _ | assumption | refine ex_drewL ?_ | refine ex_appR ?_ _ | refine ex_wx ?_ _ | refine ex_drew ?_ | refine ex_alloc ?_ _)) (by simp [go_sem]) (by rfl))).mono ?_); rintro e w2 ⟨v2, rfl, hA0, XA, rfl⟩; have hA := owns_le hA0 (Z' := (wKc w d).heap.size) (by simp [go_sem] <;> omega); clear hA0; (try simp only [wx_wx, wx_drew] at hA)) | (at_builtin; refine wpAppB _ _ rfl rfl hA rfl rfl (sls_dg d (by (try show Ex _ _); with_reducible repeat (first | exact ex_refl _ | assumption | refine ex_drewL ?_ | refine ex_appR ?_ _ | refine ex_wx ?_ _ | refine ex_drew ?_ | refine ex_alloc ?_ _)) (by simp [go_sem])) (by simp [bytesD_len]) (by simp [go_sem] <;> omega) (fun v1 w1 hB hbe => ?_); obtain ⟨X5, rfl⟩ := exOf (A := wKc w d) (by (try show Ex _ _); with_reducible repeat (first | exact ex_refl _ | assumption | refine ex_drewL ?_ | refine ex_appR ?_ _ | refine ex_wx ?_ _ | refine ex_drew ?_ | refine ex_alloc ?_ _)) hbe; clear hA)); refine mixQ_mk (by (try show Ex _ _); with_reducible repeat (first | exact ex_refl _ | assumption | refine ex_drewL ?_ | refine ex_appR ?_ _ | refine ex_wx ?_ _ | refine ex_drew ?_ | refine ex_alloc ?_ _)) ?_))
  refine wpSeq_nil ?_
  go_wp2
  go_ret
  refine ⟨_, rfl, ?_, (by (try show Ex _ _); with_reducible repeat (first | exact ex_refl _ | assumption | refine ex_drewL ?_ | refine ex_appR ?_ _ | refine ex_wx ?_ _ | refine ex_drew ?_ | refine ex_alloc ?_ _))⟩
  have := ownu_of hB
  unfold crownL
  simpa using OwnU.ex this (by (try show Ex _ _); with_reducible repeat (first | exact ex_refl _ | assumption | refine ex_drewL ?_ | refine ex_appR ?_ _ | refine ex_wx ?_ _ | refine ex_drew ?_ | refine ex_alloc ?_ _))
end Go.Proofs.YtcdocklbpfdmeaaDoor
