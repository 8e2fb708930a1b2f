import Derived.Test.YtcdocklbpfdmeaaDoorMDg
import Derived.Test.YtcdocklbpfdmeaaDoorMOct

/- Collide: the bytes of a leaf, of two, of a pair, of a crown; equal bytes: both texts. -/
set_option linter.unusedSimpArgs false
set_option linter.unusedVariables false
set_option linter.unnecessarySimpa false
set_option maxRecDepth 20000
namespace Go.Proofs.YtcdocklbpfdmeaaDoor
open Go.RowKit
/-- Bytes of a block of bytes, handed back. -/
def OwnU (w : World) (v : Value) (l : List UInt8) : Prop := w.ownsRow 0 5 1 v l.length (Lib.byteCells l)
theorem ownu_of {w : World} {Z n : Nat} {v : Value} {l : List UInt8} (h : w.ownsRow Z 5 1 v n (Lib.byteCells l)) : OwnU w v l := by
  have hn : l.length = n := by have := h.1; simpa [Lib.byteCells] using this
  subst hn
  exact owns_le h (Nat.zero_le _)
theorem OwnU.slt {w : World} {v : Value} {l : List UInt8} (h : OwnU w v l) : SlT w v l := owns_slt h
theorem OwnU.ex {w w' : World} {v : Value} {l : List UInt8} (h : OwnU w v l) (k : Ex w w') : OwnU w' v l := owns_ex h k
def PostU (W : World) (l : List UInt8) (e : Ending) (w' : World) : Prop := ∃ v, e = .returned v ∧ OwnU w' v l ∧ ∃ X, w' = wx W X
theorem concat3U {W W2 : World} {g : Nat} {t : TypeId} {v0 v1 v2 : Value} {x y z : List UInt8} (k : Ex (W.alloc (.cells #[v0, v1, v2] t)) W2) (hg : g = W.heap.size) (h0 : SlS W2 v0 x) (h1 : SlS W2 v1 y) (h2 : SlS W2 v2 z) (hl : x.length + (y.length + z.length) ≤ 140737488355328) :
    Calls Tryd.prog 145 #[.slice (some ⟨g, 0, none⟩) 3 3] W2 (PostU W2 (x ++ (y ++ z))) := by
  subst hg
  rw [← cat3]
  have hb := ex_block k (heap_alloc_new W (.cells #[v0, v1, v2] t))
  refine (concat_own _ 3 3 (at3 v0 v1 v2) (at3 x y z) _ (by omega) (by decide) ⟨Or.inr ⟨_, 0, rfl, (Array.getElem?_eq_some_iff.1 hb).1, fun i hi => ?_⟩⟩ (fun i hi => ?_) (fun q hq => ?_)).mono fun e w' ⟨v, h1, h2, h3⟩ => ⟨v, h1, ownu_of h2, h3⟩
  · rw [Nat.zero_add, cell_of_row _ W.heap.size i _ _ _ hb]
    have : i = 0 ∨ i = 1 ∨ i = 2 := by omega
    rcases this with rfl | rfl | rfl <;> rfl
  · have : i = 0 ∨ i = 1 ∨ i = 2 := by omega
    rcases this with rfl | rfl | rfl
    · exact h0
    · exact h1
    · exact h2
  · have : q = 0 ∨ q = 1 ∨ q = 2 ∨ q = 3 := by omega
    rcases this with rfl | rfl | rfl | rfl <;> simp [catL, at3, List.range_succ] <;> omega
theorem conv_slt {w : World} {v : Value} {l : List UInt8} (h : SlT w v l) : (convert 35 9 v).run Tryd.prog w = .ok (.string ⟨l.toArray⟩) w := by
  obtain ⟨a, c, rfl, h1, h2, h3, h4⟩ := h.out
  cases a with
  | none =>
    obtain rfl := h3 rfl
    obtain rfl : l = [] := List.eq_nil_of_length_eq_zero (by omega)
    rw [List.length_nil, Lib.run_convert_nil_bytes w _ _ _ 0 Tryd.underlying35 Tryd.underlying5 Tryd.underlying9]
  | some ad =>
    refine run_convert_bytes_back w _ _ _ ad c l Tryd.underlying35 Tryd.underlying5 Tryd.underlying9 fun j hj => ?_
    exact sll_news h4 (ex_refl _) j _ (by simp [Lib.byteCells, List.getElem?_eq_getElem hj])
theorem bytesEq_any {l m : List UInt8} {v u : Value} {w : World} (hs : SlT w v l) (ht : SlT w u m) :
    Calls Tryd.prog 35 #[v, u] w (Post w (.bool (decide (l = m)))) := by
  have c1 := conv_slt hs
  have c2 := conv_slt ht
  have e1 : (l == m) = decide (l = m) := by rw [Bool.eq_iff_iff, beq_iff_eq, decide_eq_true_eq]
  rw [← e1]
  clear hs ht e1
  go_enter Tryd.func35, Tryd.ntmps35
  go_wp2
  go_ret
  exact post_mk rfl (by (try show Ex _ _); with_reducible repeat (first | exact ex_refl _ | assumption | refine ex_drewL ?_ | refine ex_appR ?_ _ | refine ex_wx ?_ _ | refine ex_drew ?_ | refine ex_alloc ?_ _))
set_option maxHeartbeats 1000000 in
theorem leafB_any {v : Value} {l : List UInt8} (hl : l.length ≤ 100000) (w : World) (hv : SlT w v l) :
    Calls Tryd.prog 118 #[v] w (PostU w (0 :: l)) := by
  obtain ⟨a, c, rfl, h1, h2, h3, h4⟩ := hv.out
  cases a with
  | none =>
    obtain rfl := h3 rfl
    obtain rfl : l = [] := List.eq_nil_of_length_eq_zero (by omega)
    rw [List.length_nil]
    go_enter Tryd.func118, Tryd.ntmps118
    go_wp2
    go_ret
    exact ⟨_, rfl, ownu_of (owns_one (Z := w.heap.size) 0 (by (try show Ex _ _); with_reducible repeat (first | exact ex_refl _ | assumption | refine ex_drewL ?_ | refine ex_appR ?_ _ | refine ex_wx ?_ _ | refine ex_drew ?_ | refine ex_alloc ?_ _)) (by simp [go_sem]) (by rfl) (by simp [go_sem])), (by (try show Ex _ _); with_reducible repeat (first | exact ex_refl _ | assumption | refine ex_drewL ?_ | refine ex_appR ?_ _ | refine ex_wx ?_ _ | refine ex_drew ?_ | refine ex_alloc ?_ _))⟩
  | some ad =>
    have hs : SlS w (.slice (some ad) l.length c) l := ⟨_, _, rfl, h1, h2, h4⟩
    clear hv h4 h3
    go_enter Tryd.func118, Tryd.ntmps118
    go_wp2_with (at_builtin; refine wpAppB _ _ rfl rfl (owns_one (Z := w.heap.size) 0 (by (try show Ex _ _); with_reducible repeat (first | exact ex_refl _ | assumption | refine ex_drewL ?_ | refine ex_appR ?_ _ | refine ex_wx ?_ _ | refine ex_drew ?_ | refine ex_alloc ?_ _)) (by simp [go_sem]) (by rfl) (by simp [go_sem])) rfl rfl (hs.ex (by (try show Ex _ _); with_reducible repeat (first | exact ex_refl _ | assumption | refine ex_drewL ?_ | refine ex_appR ?_ _ | refine ex_wx ?_ _ | refine ex_drew ?_ | refine ex_alloc ?_ _))) (by omega) (by simp [go_sem]) (fun v1 w1 hown hbe => ?_); obtain ⟨X1, rfl⟩ := exOf (A := w) (by (try show Ex _ _); with_reducible repeat (first | exact ex_refl _ | assumption | refine ex_drewL ?_ | refine ex_appR ?_ _ | refine ex_wx ?_ _ | refine ex_drew ?_ | refine ex_alloc ?_ _)) hbe)
    go_ret
    exact ⟨_, rfl, ownu_of hown, (by (try show Ex _ _); with_reducible repeat (first | exact ex_refl _ | assumption | refine ex_drewL ?_ | refine ex_appR ?_ _ | refine ex_wx ?_ _ | refine ex_drew ?_ | refine ex_alloc ?_ _))⟩
set_option maxHeartbeats 1000000 in
theorem two_any (a b : Dg) (w : World) :
    Calls Tryd.prog 134 #[.agg (rowB 32 (dF a)), .agg (rowB 32 (dF b))] w (PostU w (twoL a b)) := by
  go_enter Tryd.func134, Tryd.ntmps134
  go_wp2
  refine wp_region_mix [(1, true), (2, true), (0, false), (3, false), (4, false), (5, true)] 6 (by kernel_rfl) (by kernel_rfl) (fun _ _ d _ _ h => by cases d <;> exact h) ?_
  simp only [List.map_cons, List.map_nil, nth, List.drop_succ_cons, List.drop_zero]
  repeat (first | (refine wpMix_look ?_; go_big_quiet_step (fail); refine wpQuiet_nil ?_) | (refine wpMix_eff rfl (fun X1 => ?_); go_wp2_with (first | (go_at_call 145; refine (concat3U (by (try show Ex _ _); with_reducible repeat (first | exact ex_refl _ | assumption | refine ex_drewL ?_ | refine ex_appR ?_ _ | refine ex_wx ?_ _ | refine ex_drew ?_ | refine ex_alloc ?_ _)) (by simp [go_sem]) (sls_one 1 (by (try show Ex _ _); with_reducible repeat (first | exact ex_refl _ | assumption | refine ex_drewL ?_ | refine ex_appR ?_ _ | refine ex_wx ?_ _ | refine ex_drew ?_ | refine ex_alloc ?_ _)) (by simp [go_sem]) (by rfl)) (sls_dg a (by (try show Ex _ _); with_reducible repeat (first | exact ex_refl _ | assumption | refine ex_drewL ?_ | refine ex_appR ?_ _ | refine ex_wx ?_ _ | refine ex_drew ?_ | refine ex_alloc ?_ _)) (by simp [go_sem])) (sls_dg b (by (try show Ex _ _); with_reducible repeat (first | exact ex_refl _ | assumption | refine ex_drewL ?_ | refine ex_appR ?_ _ | refine ex_wx ?_ _ | refine ex_drew ?_ | refine ex_alloc ?_ _)) (by simp [go_sem])) (by simp [bytesD_len])).mono ?_; rintro e w2 ⟨v, rfl, hsl, X, rfl⟩; (try simp only [wx_wx] at hsl))); refine mixQ_mk (by first | exact ex_refl _ | exact ⟨_, rfl⟩ | exact ex_app _ _ _ | (simp only [wx_wx, wx_drew]; first | exact ex_refl _ | exact ex_app _ _ _ | exact ⟨_, rfl⟩) | (repeat (first | exact ex_refl _ | refine ex_drew ?_ | refine ex_alloc ?_ _ | refine ex_wx ?_ _))) ?_))
  refine wpMix_nil (fun X2 => ?_)
  go_wp2
  go_ret
  exact ⟨_, rfl, hsl.ex (by (try show Ex _ _); with_reducible repeat (first | exact ex_refl _ | assumption | refine ex_drewL ?_ | refine ex_appR ?_ _ | refine ex_wx ?_ _ | refine ex_drew ?_ | refine ex_alloc ?_ _)), (by (try show Ex _ _); with_reducible repeat (first | exact ex_refl _ | assumption | refine ex_drewL ?_ | refine ex_appR ?_ _ | refine ex_wx ?_ _ | refine ex_drew ?_ | refine ex_alloc ?_ _))⟩
abbrev wKc (w : World) (d : Dg) : World := w.alloc (.cells (rowB 32 (dF d)) 46)
def crownL (m : Nat) (d : Dg) : List UInt8 := [2] ++ hiL m 4 ++ bytesD d
set_option maxHeartbeats 1000000 in
theorem crownB_any (m : Nat) (hm : m ≤ 1000000) (d : Dg) (w : World) :
    Calls Tryd.prog 77 #[I m, .agg (rowB 32 (dF d))] w (PostU w (crownL m d)) := by
  have hn : (m : Int) % 4294967296 = (m : Int) := by omega
  have hml : m < 4294967296 := by omega
  go_enter Tryd.func77, Tryd.ntmps77
  go_wp2
  refine wp_region_seqA (w) [(1, true), (2, true), (4, true), (0, false), (3, false), (5, false), (6, true)] (by (try show Ex _ _); with_reducible repeat (first | exact ex_refl _ | assumption | refine ex_drewL ?_ | refine ex_appR ?_ _ | refine ex_wx ?_ _ | refine ex_drew ?_ | refine ex_alloc ?_ _)) (by kernel_rfl) (by kernel_rfl) (fun _ _ d _ _ h => by cases d <;> exact h) ?_
  simp only [List.map_cons, List.map_nil, nth]
  repeat (first | ((with_reducible refine wpSeq_look ?_); go_big_quiet_step (fail); (with_reducible refine wpQuiet_nil ?_)) | ((with_reducible refine wpSeq_effF ?_ ?_); (focus rfl); go_simp) | ((with_reducible refine wpSeq_eff ?_ ?_); (focus rfl); (try dsimp only); go_wp2_with (first | (go_at_call 101; (refine (put32_any m hml [2] _ _ (by simp) (by simp) (sls_one 2 (by (try show Ex _ _); with_reducible repeat (first | exact ex_refl _ | assumption | refine ex_drewL ?_ | refine ex_appR ?_ _ | refine ex_wx ?_ _ | refine ex_drew ?_ | refine ex_alloc ?_ _)) (by simp [go_sem]) (by rfl))).mono ?_); rintro e w2 ⟨v2, rfl, hA0, XA, rfl⟩; have hA := owns_le hA0 (Z' := (wKc w d).heap.size) (by simp [go_sem] <;> omega); clear hA0; (try simp only [wx_wx, wx_drew] at hA)) | (at_builtin; refine wpAppB _ _ rfl rfl hA rfl rfl (sls_dg d (by (try show Ex _ _); with_reducible repeat (first | exact ex_refl _ | assumption | refine ex_drewL ?_ | refine ex_appR ?_ _ | refine ex_wx ?_ _ | refine ex_drew ?_ | refine ex_alloc ?_ _)) (by simp [go_sem])) (by simp [bytesD_len]) (by simp [go_sem] <;> omega) (fun v1 w1 hB hbe => ?_); obtain ⟨X5, rfl⟩ := exOf (A := wKc w d) (by (try show Ex _ _); with_reducible repeat (first | exact ex_refl _ | assumption | refine ex_drewL ?_ | refine ex_appR ?_ _ | refine ex_wx ?_ _ | refine ex_drew ?_ | refine ex_alloc ?_ _)) hbe; clear hA)); refine mixQ_mk (by (try show Ex _ _); with_reducible repeat (first | exact ex_refl _ | assumption | refine ex_drewL ?_ | refine ex_appR ?_ _ | refine ex_wx ?_ _ | refine ex_drew ?_ | refine ex_alloc ?_ _)) ?_))
  refine wpSeq_nil ?_
  go_wp2
  go_ret
  refine ⟨_, rfl, ?_, (by (try show Ex _ _); with_reducible repeat (first | exact ex_refl _ | assumption | refine ex_drewL ?_ | refine ex_appR ?_ _ | refine ex_wx ?_ _ | refine ex_drew ?_ | refine ex_alloc ?_ _))⟩
  have := ownu_of hB
  unfold crownL
  simpa using OwnU.ex this (by (try show Ex _ _); with_reducible repeat (first | exact ex_refl _ | assumption | refine ex_drewL ?_ | refine ex_appR ?_ _ | refine ex_wx ?_ _ | refine ex_drew ?_ | refine ex_alloc ?_ _))
end Go.Proofs.YtcdocklbpfdmeaaDoor

/- Collide: the bytes of a pair: both texts; the document's crown. -/
set_option linter.unusedSimpArgs false
set_option linter.unusedVariables false
set_option linter.unnecessarySimpa false
set_option maxRecDepth 20000
namespace Go.Proofs.YtcdocklbpfdmeaaDoor
open Go.RowKit
/-- A pair that can be told whole. -/
def FitP (p : Pr) : Prop := p.1.size ≤ 65535 ∧ p.2.size ≤ 65535
theorem someL_fit {s : ByteArray} (h : s.size ≤ 65535) : someL s = hiL s.size 2 ++ s.data.toList := by
  unfold someL
  rw [Nat.min_eq_left h, List.take_of_length_le (by rw [str_len]; exact h)]
abbrev wCb (w : World) (x y : ByteArray) : World := w.alloc (.cells #[.string x, .string y] 42)
set_option maxHeartbeats 1000000 in
theorem cellB_any (p : Pr) (hp : FitP p) (w : World) :
    Calls Tryd.prog 120 #[.agg (PC p)] w (PostU w (leafL p)) := by
  obtain ⟨x, y⟩ := p
  obtain ⟨b1, b2⟩ : x.size ≤ 65535 ∧ y.size ≤ 65535 := hp
  have HX := Lib.hid (someL_fit b1)
  have HY := Lib.hid (someL_fit b2)
  unfold PC
  have q1 : (x.size : Int) % 65536 = x.size := by omega
  have q2 : (y.size : Int) % 65536 = y.size := by omega
  have tok2 : True := trivial
  go_enter Tryd.func120, Tryd.ntmps120
  go_wp2_with (go_at_call 137; have _t := tok2; clear tok2; (refine (put16_any x.size (by omega) [0] _ _ (by simp) (by simp) (sls_one 0 (by (try show Ex _ _); with_reducible repeat (first | exact ex_refl _ | assumption | refine ex_drewL ?_ | refine ex_appR ?_ _ | refine ex_wx ?_ _ | refine ex_drew ?_ | refine ex_alloc ?_ _)) (by simp [go_sem]) (by rfl))).mono ?_); rintro e w2 ⟨v2, rfl, hA0, XA, rfl⟩; have hA := owns_le hA0 (Z' := (wCb w x y).heap.size) (by simp [go_sem] <;> omega); clear hA0; (try simp only [wx_wx] at hA))
  refine wp_region_seqA (wCb w x y) [(0, true), (1, true), (2, true), (4, true), (5, true), (6, true), (7, true), (3, false), (8, false), (9, true)] (by (try show Ex _ _); with_reducible repeat (first | exact ex_refl _ | assumption | refine ex_drewL ?_ | refine ex_appR ?_ _ | refine ex_wx ?_ _ | refine ex_drew ?_ | refine ex_alloc ?_ _)) (by kernel_rfl) (by kernel_rfl) (fun _ _ d _ _ h => by cases d <;> exact h) ?_
  simp only [List.map_cons, List.map_nil, nth]
  repeat (first | ((with_reducible refine wpSeq_look ?_); go_big_quiet_step (fail); (with_reducible refine wpQuiet_nil ?_)) | ((with_reducible refine wpSeq_effF ?_ ?_); (focus rfl); go_simp) | ((with_reducible refine wpSeq_eff ?_ ?_); (focus rfl); (try dsimp only); go_wp2_with (first | (at_builtin; refine wpAppStr _ _ rfl rfl hA rfl x rfl (by simp; omega) (by simp [go_sem] <;> omega) (fun v1 w1 hB hbe => ?_); obtain ⟨X5, rfl⟩ := exOf (A := wCb w x y) (by (try show Ex _ _); with_reducible repeat (first | exact ex_refl _ | assumption | refine ex_drewL ?_ | refine ex_appR ?_ _ | refine ex_wx ?_ _ | refine ex_drew ?_ | refine ex_alloc ?_ _)) hbe; clear hA) | (go_at_call 137; (refine (put16_any y.size (by omega) _ _ _ (by simp only [List.length_append, hiL_len, str_len, List.length_singleton]; omega) (by simp) ((owns_sls hB (by omega)).ex (by (try show Ex _ _); with_reducible repeat (first | exact ex_refl _ | assumption | refine ex_drewL ?_ | refine ex_appR ?_ _ | refine ex_wx ?_ _ | refine ex_drew ?_ | refine ex_alloc ?_ _)))).mono ?_); rintro e w2 ⟨v3, rfl, hC0, XC, rfl⟩; have hC := owns_le hC0 (Z' := (wCb w x y).heap.size) (by simp [go_sem] <;> omega); clear hC0 hB; (try simp only [wx_wx, wx_drew] at hC))); refine mixQ_mk (by (try show Ex _ _); with_reducible repeat (first | exact ex_refl _ | assumption | refine ex_drewL ?_ | refine ex_appR ?_ _ | refine ex_wx ?_ _ | refine ex_drew ?_ | refine ex_alloc ?_ _)) ?_))
  refine wpSeq_nil ?_
  go_wp2_with (at_builtin; refine wpAppStr _ _ rfl rfl hC rfl y rfl (by simp only [List.length_append, hiL_len, str_len, List.length_singleton]; omega) (by simp [go_sem] <;> omega) (fun v1 w1 hD hbe => ?_); obtain ⟨X6, rfl⟩ := exOf (A := wCb w x y) (by (try show Ex _ _); with_reducible repeat (first | exact ex_refl _ | assumption | refine ex_drewL ?_ | refine ex_appR ?_ _ | refine ex_wx ?_ _ | refine ex_drew ?_ | refine ex_alloc ?_ _)) hbe; clear hC)
  go_ret
  refine ⟨_, rfl, ?_, (by (try show Ex _ _); with_reducible repeat (first | exact ex_refl _ | assumption | refine ex_drewL ?_ | refine ex_appR ?_ _ | refine ex_wx ?_ _ | refine ex_drew ?_ | refine ex_alloc ?_ _))⟩
  have := ownu_of hD
  unfold leafL
  rw [HX.out, HY.out]
  simpa using OwnU.ex this (by (try show Ex _ _); with_reducible repeat (first | exact ex_refl _ | assumption | refine ex_drewL ?_ | refine ex_appR ?_ _ | refine ex_wx ?_ _ | refine ex_drew ?_ | refine ex_alloc ?_ _))
end Go.Proofs.YtcdocklbpfdmeaaDoor
