import Derived.Test.YtcdocklbpfdmeaaDoorMOct
import Derived.Test.YtcdocklbpfdmeaaDoorMDg

/- Collide: the bytes of a pair: both texts; the document's crown. -/
set_option linter.unusedSimpArgs false
set_option linter.unusedVariables false
set_option linter.unnecessarySimpa false
set_option maxRecDepth 20000
namespace Go.Proofs.YtcdocklbpfdmeaaDoor
open Go.RowKit
/-- A pair that can be told whole. -/
def FitP (p : Pr) : Prop := p.1.size ≤ 65535 ∧ p.2.size ≤ 65535
theorem someL_fit {s : ByteArray} (h : s.size ≤ 65535) : someL s = hiL s.size 2 ++ s.data.toList := by
  unfold someL
  rw [Nat.min_eq_left h, List.take_of_length_le (by rw [str_len]; exact h)]
abbrev wCb (w : World) (x y : ByteArray) : World := w.alloc (.cells #[.string x, .string y] 42)
set_option maxHeartbeats 1000000 in
theorem cellB_any (p : Pr) (hp : FitP p) (w : World) :
    Calls Tryd.prog 120 #[.agg (PC p)] w (PostU w (leafL p)) := by
  obtain ⟨x, y⟩ := p
  obtain ⟨b1, b2⟩ : x.size ≤ 65535 ∧ y.size ≤ 65535 := hp
  have HX := Lib.hid (someL_fit b1)
  have HY := Lib.hid (someL_fit b2)
  unfold PC
  have q1 : (x.size : Int) % 65536 = x.size := by omega
  have q2 : (y.size : Int) % 65536 = y.size := by omega
  have tok2 : True := trivial
  go_enter Tryd.func120, Tryd.ntmps120
  go_wp2_with (go_at_call 137; have _t := tok2; clear tok2; (refine (put16_any x.size (by omega) [0] _ _ (by simp) (by simp) (sls_one 0 (by (try show Ex _ _); with_reducible repeat (first | exact ex_refl _ | assumption | refine ex_drewL ?_ | refine ex_appR ?_ _ | refine ex_wx ?_ _ | refine ex_drew ?_ | refine ex_alloc ?_ _)) (by simp [go_sem]) (by rfl))).mono ?_); rintro e w2 ⟨v2, rfl, hA0, XA, rfl⟩; have hA := owns_le hA0 (Z' := (wCb w x y).heap.size) (by simp [go_sem] <;> omega); clear hA0; (try simp only [wx_wx] at hA))
  refine wp_region_seqA (wCb w x y) [(0, true), (1, true), (2, true), (4, true), (5, true), (6, true), (7, true), (3, false), (8, false), (9, true)] (by (try show Ex _ _); with_reducible repeat (first | exact ex_refl _ | assumption | refine ex_drewL ?_ | refine ex_appR ?_ _ | refine ex_wx ?_ _ | refine ex_drew ?_ | refine ex_alloc ?_ _)) (by kernel_rfl) (by kernel_rfl) (fun _ _ d _ _ h => by cases d <;> exact h) ?_
  simp only [List.map_cons, List.map_nil, nth]
  repeat (first | ((with_reducible refine wpSeq_look ?_); go_big_quiet_step (fail); (with_reducible refine wpQuiet_nil ?_)) | ((with_reducible refine wpSeq_effF ?_ ?_); (focus rfl); go_simp) | ((with_reducible refine wpSeq_eff ?_ ?_); (focus rfl); (try dsimp only); go_wp2_with (first | (at_builtin; refine wpAppStr _ _ rfl rfl hA rfl x rfl (by simp; omega) (by simp [go_sem] <;> omega) (fun v1 w1 hB hbe => ?_); obtain ⟨X5, rfl⟩ := exOf (A := wCb w x y) (by (try show Ex _ _); with_reducible repeat (first | exact ex_refl _ | assumption | refine ex_drewL ?_ | refine ex_appR ?_ _ | refine ex_wx ?_ _ | refine ex_drew ?_ | refine ex_alloc ?_ _)) hbe; clear hA) | (go_at_call 137; (refine (put16_any y.size (by omega) _ _ _ (by simp only [List.length_append, hiL_len, str_len, List.length_singleton]; omega) (by simp) ((owns_sls hB (by omega)).ex (by (try show Ex _ _); with_reducible repeat (first | exact ex_refl _ | assumption | refine ex_drewL ?_ | refine ex_appR ?_ _ | refine ex_wx ?_ _ | refine ex_drew ?_ | refine ex_alloc ?_ _)))).mono ?_); rintro e w2 ⟨v3, rfl, hC0, XC, rfl⟩; have hC := owns_le hC0 (Z' := (wCb w x y).heap.size) (by simp [go_sem] <;> omega); clear hC0 hB; (try simp only [wx_wx, wx_drew] at hC))); refine mixQ_mk (by (try show Ex _ _); with_reducible repeat (first | exact ex_refl _ | assumption | refine ex_drewL ?_ | refine ex_appR ?_ _ | refine ex_wx ?_ _ | refine ex_drew ?_ | refine ex_alloc ?_ _)) ?_))
  refine wpSeq_nil ?_
  go_wp2_with (at_builtin; refine wpAppStr _ _ rfl rfl hC rfl y rfl (by simp only [List.length_append, hiL_len, str_len, List.length_singleton]; omega) (by simp [go_sem] <;> omega) (fun v1 w1 hD hbe => ?_); obtain ⟨X6, rfl⟩ := exOf (A := wCb w x y) (by (try show Ex _ _); with_reducible repeat (first | exact ex_refl _ | assumption | refine ex_drewL ?_ | refine ex_appR ?_ _ | refine ex_wx ?_ _ | refine ex_drew ?_ | refine ex_alloc ?_ _)) hbe; clear hC)
  go_ret
  refine ⟨_, rfl, ?_, (by (try show Ex _ _); with_reducible repeat (first | exact ex_refl _ | assumption | refine ex_drewL ?_ | refine ex_appR ?_ _ | refine ex_wx ?_ _ | refine ex_drew ?_ | refine ex_alloc ?_ _))⟩
  have := ownu_of hD
  unfold leafL
  rw [HX.out, HY.out]
  simpa using OwnU.ex this (by (try show Ex _ _); with_reducible repeat (first | exact ex_refl _ | assumption | refine ex_drewL ?_ | refine ex_appR ?_ _ | refine ex_wx ?_ _ | refine ex_drew ?_ | refine ex_alloc ?_ _))
theorem byte_hi (n : Nat) (j : Nat) : (((n : Int) / 256 ^ j) % 256) = bn (UInt8.ofNat (n / 256 ^ j)) := by
  unfold bn
  rw [UInt8.toNat_ofNat']
  have h : ((n : Int) / 256 ^ j) = ((n / 256 ^ j : Nat) : Int) := by push_cast; rfl
  rw [h]; omega
theorem sls_lit {w w' : World} {g : Nat} {cs : List Value} {l : List UInt8} {t : TypeId} (k : Ex (w.alloc (.cells cs.toArray t)) w') (hg : g = w.heap.size) (hl : cs = l.map B) (hm : l.length ≤ 1000) :
    SlS w' (.slice (some ⟨g, 0, none⟩) l.length l.length) l := by
  subst hg hl
  refine ⟨_, l.length, rfl, Nat.le_refl _, by unfold maxLen; omega, SlL.ex (sll_block (heap_alloc_new _ _) fun j hj => ?_) k⟩
  rw [List.getElem?_toArray, List.getElem?_map]
  unfold gF
  rw [List.getD_eq_getElem?_getD, List.getElem?_eq_getElem hj]; rfl
theorem owns_lit {w w2 : World} {Z : Nat} {v : Value} {cs : List Value} {l : List UInt8} (k : Ex (w.alloc (.cells cs.toArray 5)) w2) (hv : v = .slice (some ⟨w.heap.size, 0, none⟩) l.length l.length) (hl : cs = l.map B) (hm : l.length ≤ 1000) (hZ : Z ≤ w.heap.size) :
    w2.ownsRow Z 5 1 v l.length (Lib.byteCells l) := by
  subst hl hv
  exact owns_ex (owns_new rfl hZ (Nat.le_refl _) (by unfold maxLen; omega) (by simp) (by rw [Nat.mul_one, List.take_of_length_le (by simp)]; rfl)) k
set_option maxHeartbeats 1000000 in
theorem refcrownB_any (m : Nat) (hm : m ≤ 1000000) (d : Dg) (w : World) :
    Calls Tryd.prog 82 #[I m, .agg (rowB 32 (dF d))] w (PostU w (crownL m d)) := by
  have h1 : (m : Int) / 16777216 = bn (UInt8.ofNat (m / 256 ^ 3)) := by rw [← byte_hi m 3]; omega
  have h2 : (m : Int) / 65536 = bn (UInt8.ofNat (m / 256 ^ 2)) := by rw [← byte_hi m 2]; omega
  have h3 : (m : Int) / 256 % 256 = bn (UInt8.ofNat (m / 256 ^ 1)) := byte_hi m 1
  have h4 : (m : Int) % 256 = bn (UInt8.ofNat (m / 256 ^ 0)) := by have := byte_hi m 0; simpa using this
  have HL : Hid ([2] ++ hiL m 4 = [2, UInt8.ofNat (m / 256 ^ 3), UInt8.ofNat (m / 256 ^ 2), UInt8.ofNat (m / 256 ^ 1), UInt8.ofNat (m / 256 ^ 0)]) := Lib.hid rfl
  unfold crownL
  rw [HL.out]
  generalize UInt8.ofNat (m / 256 ^ 3) = b3 at *
  generalize UInt8.ofNat (m / 256 ^ 2) = b2 at *
  generalize UInt8.ofNat (m / 256 ^ 1) = b1 at *
  generalize UInt8.ofNat (m / 256 ^ 0) = b0 at *
  go_enter Tryd.func82, Tryd.ntmps82
  go_wp2_with (at_builtin; refine wpAppB _ _ rfl rfl (owns_lit (Z := (wKc w d).heap.size) (l := [2, b3, b2, b1, b0]) (by (try show Ex _ _); with_reducible repeat (first | exact ex_refl _ | assumption | refine ex_drewL ?_ | refine ex_appR ?_ _ | refine ex_wx ?_ _ | refine ex_drew ?_ | refine ex_alloc ?_ _)) (by simp [go_sem]) (by rfl) (by simp) (by simp [go_sem])) rfl rfl (sls_dg d (by (try show Ex _ _); with_reducible repeat (first | exact ex_refl _ | assumption | refine ex_drewL ?_ | refine ex_appR ?_ _ | refine ex_wx ?_ _ | refine ex_drew ?_ | refine ex_alloc ?_ _)) (by simp [go_sem])) (by simp [bytesD_len]) (by simp [go_sem]) (fun v1 w1 hB hbe => ?_); obtain ⟨X5, rfl⟩ := exOf (A := wKc w d) (by (try show Ex _ _); with_reducible repeat (first | exact ex_refl _ | assumption | refine ex_drewL ?_ | refine ex_appR ?_ _ | refine ex_wx ?_ _ | refine ex_drew ?_ | refine ex_alloc ?_ _)) hbe)
  go_ret
  exact ⟨_, rfl, ownu_of hB, (by (try show Ex _ _); with_reducible repeat (first | exact ex_refl _ | assumption | refine ex_drewL ?_ | refine ex_appR ?_ _ | refine ex_wx ?_ _ | refine ex_drew ?_ | refine ex_alloc ?_ _))⟩
theorem sls_lit2 {w w2 : World} {v : Value} {cs : List Value} {l : List UInt8} {t : TypeId} (k : Ex (w.alloc (.cells cs.toArray t)) w2) (hv : v = .slice (some ⟨w.heap.size, 0, none⟩) l.length l.length) (hl : cs = l.map B) (hm : l.length ≤ 1000) : SlS w2 v l := by
  subst hv
  exact sls_lit k rfl hl hm
set_option maxHeartbeats 1000000 in
theorem refcellB_any (p : Pr) (hp : FitP p) (w : World) :
    Calls Tryd.prog 121 #[.agg (PC p)] w (PostU w (leafL p)) := by
  obtain ⟨x, y⟩ := p
  obtain ⟨b1, b2⟩ : x.size ≤ 65535 ∧ y.size ≤ 65535 := hp
  have HR : Hid (leafL (x, y) = [0, UInt8.ofNat (x.size / 256 ^ 1), UInt8.ofNat (x.size / 256 ^ 0)] ++ x.data.toList ++ [UInt8.ofNat (y.size / 256 ^ 1), UInt8.ofNat (y.size / 256 ^ 0)] ++ y.data.toList) := Lib.hid (by
    unfold leafL
    rw [someL_fit b1, someL_fit b2]
    simp [hiL, List.range_succ])
  rw [HR.out]
  have h1 : (x.size : Int).tdiv 256 = bn (UInt8.ofNat (x.size / 256 ^ 1)) := by rw [← byte_hi x.size 1, Int.tdiv_eq_ediv_of_nonneg (by omega)]; omega
  have h1b : (x.size : Int) / 256 = bn (UInt8.ofNat (x.size / 256 ^ 1)) := by rw [← byte_hi x.size 1]; omega
  have h2 : (x.size : Int) % 256 = bn (UInt8.ofNat (x.size / 256 ^ 0)) := by have := byte_hi x.size 0; simpa using this
  have h3 : (y.size : Int).tdiv 256 = bn (UInt8.ofNat (y.size / 256 ^ 1)) := by rw [← byte_hi y.size 1, Int.tdiv_eq_ediv_of_nonneg (by omega)]; omega
  have h3b : (y.size : Int) / 256 = bn (UInt8.ofNat (y.size / 256 ^ 1)) := by rw [← byte_hi y.size 1]; omega
  have h4 : (y.size : Int) % 256 = bn (UInt8.ofNat (y.size / 256 ^ 0)) := by have := byte_hi y.size 0; simpa using this
  generalize UInt8.ofNat (x.size / 256 ^ 1) = c1 at *
  generalize UInt8.ofNat (x.size / 256 ^ 0) = c0 at *
  generalize UInt8.ofNat (y.size / 256 ^ 1) = d1 at *
  generalize UInt8.ofNat (y.size / 256 ^ 0) = d0 at *
  clear HR
  unfold PC
  have mixed : Tryd.prog.follows .mixedOrders = true := by kernel_rfl
  go_enter Tryd.func121, Tryd.ntmps121
  go_wp2
  go_big_region_o
  go_wp2_with (at_builtin; refine wpAppStr _ _ rfl rfl (owns_lit (Z := (wCb w x y).heap.size) (l := [0, c1, c0]) (by (try show Ex _ _); with_reducible repeat (first | exact ex_refl _ | assumption | refine ex_drewL ?_ | refine ex_appR ?_ _ | refine ex_wx ?_ _ | refine ex_drew ?_ | refine ex_alloc ?_ _)) (by simp [go_sem]) (by rfl) (by simp) (by simp [go_sem])) rfl x rfl (by simp; omega) (by simp [go_sem] <;> omega) (fun v1 w1 hB hbe => ?_); obtain ⟨X5, rfl⟩ := exOf (A := wCb w x y) (by (try show Ex _ _); with_reducible repeat (first | exact ex_refl _ | assumption | refine ex_drewL ?_ | refine ex_appR ?_ _ | refine ex_wx ?_ _ | refine ex_drew ?_ | refine ex_alloc ?_ _)) hbe)
  refine wp_region_seqA (wCb w x y) [(0, true), (1, true), (2, true), (3, true), (4, true), (5, true), (8, true), (9, true), (6, false), (7, false), (10, false), (11, true)] (by (try show Ex _ _); with_reducible repeat (first | exact ex_refl _ | assumption | refine ex_drewL ?_ | refine ex_appR ?_ _ | refine ex_wx ?_ _ | refine ex_drew ?_ | refine ex_alloc ?_ _)) (by kernel_rfl) (by kernel_rfl) (fun _ _ d _ _ h => by cases d <;> exact h) ?_
  simp only [List.map_cons, List.map_nil, nth]
  repeat (first | ((with_reducible refine wpSeq_look ?_); go_big_quiet_step (fail); (with_reducible refine wpQuiet_nil ?_)) | ((with_reducible refine wpSeq_effF ?_ ?_); (focus rfl); go_simp) | ((with_reducible refine wpSeq_eff ?_ ?_); (focus rfl); (try dsimp only); go_wp2_with (first | (at_builtin; refine wpAppB _ _ rfl rfl (owns_ex hB (by (try show Ex _ _); with_reducible repeat (first | exact ex_refl _ | assumption | refine ex_drewL ?_ | refine ex_appR ?_ _ | refine ex_wx ?_ _ | refine ex_drew ?_ | refine ex_alloc ?_ _))) rfl rfl (sls_lit2 (l := [d1, d0]) (by (try show Ex _ _); with_reducible repeat (first | exact ex_refl _ | assumption | refine ex_drewL ?_ | refine ex_appR ?_ _ | refine ex_wx ?_ _ | refine ex_drew ?_ | refine ex_alloc ?_ _)) (by simp [go_sem]) (by rfl) (by simp)) (by simp [str_len]; omega) (by simp [go_sem] <;> omega) (fun v1 w1 hC hbe => ?_); obtain ⟨X6, rfl⟩ := exOf (A := wCb w x y) (by (try show Ex _ _); with_reducible repeat (first | exact ex_refl _ | assumption | refine ex_drewL ?_ | refine ex_appR ?_ _ | refine ex_wx ?_ _ | refine ex_drew ?_ | refine ex_alloc ?_ _)) hbe) | (at_builtin; refine wpAppStr _ _ rfl rfl (owns_ex hC (by (try show Ex _ _); with_reducible repeat (first | exact ex_refl _ | assumption | refine ex_drewL ?_ | refine ex_appR ?_ _ | refine ex_wx ?_ _ | refine ex_drew ?_ | refine ex_alloc ?_ _))) rfl y rfl (by simp [str_len]; omega) (by simp [go_sem] <;> omega) (fun v1 w1 hD hbe => ?_); obtain ⟨X7, rfl⟩ := exOf (A := wCb w x y) (by (try show Ex _ _); with_reducible repeat (first | exact ex_refl _ | assumption | refine ex_drewL ?_ | refine ex_appR ?_ _ | refine ex_wx ?_ _ | refine ex_drew ?_ | refine ex_alloc ?_ _)) hbe)); refine mixQ_mk (by (try show Ex _ _); with_reducible repeat (first | exact ex_refl _ | assumption | refine ex_drewL ?_ | refine ex_appR ?_ _ | refine ex_wx ?_ _ | refine ex_drew ?_ | refine ex_alloc ?_ _)) ?_))
  refine wpSeq_nil ?_
  go_wp2
  go_ret
  exact ⟨_, rfl, OwnU.ex (ownu_of hD) (by (try show Ex _ _); with_reducible repeat (first | exact ex_refl _ | assumption | refine ex_drewL ?_ | refine ex_appR ?_ _ | refine ex_wx ?_ _ | refine ex_drew ?_ | refine ex_alloc ?_ _)), (by (try show Ex _ _); with_reducible repeat (first | exact ex_refl _ | assumption | refine ex_drewL ?_ | refine ex_appR ?_ _ | refine ex_wx ?_ _ | refine ex_drew ?_ | refine ex_alloc ?_ _))⟩
end Go.Proofs.YtcdocklbpfdmeaaDoor

/- Collide: slices of byte strings; roots of leaves and tops of pairs by a width: both texts. -/
set_option linter.unusedSimpArgs false
set_option linter.unusedVariables false
set_option linter.unnecessarySimpa false
set_option maxRecDepth 20000
namespace Go.Proofs.YtcdocklbpfdmeaaDoor
open Go.RowKit
theorem info_cell : (Tryd.prog.info? 42).map (·.size) = some 2 := by kernel_rfl
@[go_sem] theorem load_cell (b o : Nat) (w : World) : loadRun Tryd.prog 42 (.pointer (some ⟨b, o, none⟩)) w = match cellsN w b o 2 with | some cs => .ok (.value (.agg cs)) w | none => loadRaw Tryd.prog 42 (.pointer (some ⟨b, o, none⟩)) w := loadRun_row Tryd.underlying42 rfl info_cell b o w
@[go_sem] theorem store_cell (b o : Nat) (vs : Array Value) (w : World) : storeRun Tryd.prog 42 (.pointer (some ⟨b, o, none⟩)) (.agg vs) w = if (vs.size == 2 && (cellsN w b o 2).isSome && !frozenN w b o 2 && oneCells vs) = true then .ok .skip (w.setCells b o vs.toList) else storeRaw Tryd.prog 42 (.pointer (some ⟨b, o, none⟩)) (.agg vs) w := storeRun_row info_cell b o vs w
@[go_sem] theorem zagg_idz : Value.agg #[.int .u8 0, .int .u8 0, .int .u8 0, .int .u8 0, .int .u8 0, .int .u8 0, .int .u8 0, .int .u8 0, .int .u8 0, .int .u8 0, .int .u8 0, .int .u8 0, .int .u8 0, .int .u8 0, .int .u8 0, .int .u8 0, .int .u8 0, .int .u8 0, .int .u8 0, .int .u8 0, .int .u8 0, .int .u8 0, .int .u8 0, .int .u8 0, .int .u8 0, .int .u8 0, .int .u8 0, .int .u8 0, .int .u8 0, .int .u8 0, .int .u8 0, .int .u8 0] = .agg (rowB 32 (fun _ => 0)) := rfl
/-- A slice of byte strings. -/
structure SlLs (w : World) (a : Option Addr) (l : List (List UInt8)) : Prop where
  out : l = [] ∨ ∃ g off, a = some ⟨g, off, none⟩ ∧ g < w.heap.size ∧ ∀ i b, l[i]? = some b → ∃ v, w.cell? ⟨g, off + i, none⟩ = some v ∧ SlT w v b
theorem SlLs.ex {w w' : World} {a : Option Addr} {l : List (List UInt8)} (h : SlLs w a l) (k : Ex w w') : SlLs w' a l := by
  rcases h.out with h | ⟨g, off, h1, h2, h3⟩
  · exact ⟨Or.inl h⟩
  · refine ⟨Or.inr ⟨g, off, h1, Nat.lt_of_lt_of_le h2 (ex_size k), fun i d hd => ?_⟩⟩
    obtain ⟨v, e1, e2⟩ := h3 i d hd
    refine ⟨v, ?_, e2.ex k⟩
    obtain ⟨X, rfl⟩ := k
    rw [wx_cell w X _ h2]; exact e1
theorem SlLs.pos {w : World} {a : Option Addr} {l : List (List UInt8)} (h : SlLs w a l) (hn : 0 < l.length) : ∃ g off, a = some ⟨g, off, none⟩ ∧ g < w.heap.size ∧ ∀ i b, l[i]? = some b → ∃ v, w.cell? ⟨g, off + i, none⟩ = some v ∧ SlT w v b := by
  rcases h.out with rfl | h
  · simp at hn
  · exact h
theorem SlLs.nil (w : World) (a : Option Addr) : SlLs w a [] := ⟨Or.inl rfl⟩
theorem SlLs.take {w : World} {a : Option Addr} {l : List (List UInt8)} (h : SlLs w a l) (k : Nat) : SlLs w a (l.take k) := by
  rcases h.out with rfl | ⟨g, off, h1, h2, h3⟩
  · exact ⟨Or.inl (by simp)⟩
  · refine ⟨Or.inr ⟨g, off, h1, h2, fun i d hd => ?_⟩⟩
    rw [List.getElem?_take] at hd
    split at hd
    · exact h3 i d hd
    · cases hd
theorem SlLs.drop {w : World} {g off : Nat} {l : List (List UInt8)} (h : SlLs w (some ⟨g, off, none⟩) l) (k : Nat) : SlLs w (some ⟨g, off + k, none⟩) (l.drop k) := by
  rcases h.out with rfl | ⟨g', off', h1, h2, h3⟩
  · exact ⟨Or.inl (by simp)⟩
  · cases h1
    refine ⟨Or.inr ⟨g, _, rfl, h2, fun i d hd => ?_⟩⟩
    rw [List.getElem?_drop] at hd
    rw [Nat.add_assoc]
    exact h3 _ d hd
/-- All short. -/
def ShortL (l : List (List UInt8)) : Prop := ∀ b ∈ l, b.length ≤ 90
def FitL (l : List Pr) : Prop := ∀ p ∈ l, FitP p
theorem leafL_short {p : Pr} : (leafL p).length ≤ 200000 := by
  unfold leafL
  rw [List.length_append, List.length_append, leaf_len, leaf_len]; simp; omega
def zL (b : List UInt8) : List UInt8 := 0 :: b
theorem rootC_top (S : List UInt8 → Dg) (l : List (List UInt8)) : rootC S l = topC S (S []) zL l := rfl
theorem row_zeroC : rowB 32 (dF zeroD) = rowB 32 fun _ => 0 := rowB_congr fun i hi => dF_ofF _ i hi
theorem twoL_len (a b : Dg) : (twoL a b).length = 65 := by unfold twoL; simp [bytesD_len]
theorem split_at (N : Nat) (w : World) (h2 : 2 ≤ N) (hN : N ≤ 1024) : Calls Tryd.prog 133 #[I N] w (fun e w' => e = .returned (I (splitN N)) ∧ w = w') := by
  have := Split_any N w
  rwa [SplitN_in h2 hN] at this
theorem refsplit_at (N : Nat) (w : World) (h2 : 2 ≤ N) (hN : N ≤ 1024) : Calls Tryd.prog 80 #[I N] w (fun e w' => e = .returned (I (splitN N)) ∧ w = w') := by
  have := refSplit_any N w
  rwa [SplitN_in h2 hN] at this
set_option maxHeartbeats 1000000 in
theorem overL_any {w0 : World} (G : Glob w0) (W : Nat) (hW : W ≤ 256) (z : Dg) (N : Nat) : ∀ (l : List (List UInt8)) (a : Option Addr) (c : Nat) (w : World), l.length = N → N ≤ 1024 → N ≤ c → c ≤ maxLen → SlLs w a l → ShortL l → Ex w0 w →
    Calls Tryd.prog 117 #[I W, .slice a N c, .agg (rowB 32 (dF z)), .func (.func 118) #[] #[]] w (Post w (.agg (rowB 32 (dF (topC (sumW W) z zL l))))) := by
  induction N using Nat.strongRecOn with
  | ind N ih =>
    intro l a c w hl hN hc hcm hs hf k0
    unfold maxLen at hcm
    rcases Nat.lt_or_ge N 2 with h2 | h2
    · have h01 : N = 0 ∨ N = 1 := by omega
      rcases h01 with rfl | rfl
      · obtain rfl := List.eq_nil_of_length_eq_zero hl
        have hr : topC (sumW W) z zL [] = z := overC_nil _
        rw [hr]
        clear ih hs hf hr
        go_enter Tryd.func117, Tryd.ntmps117
        go_wp2
        exact ret_row (cs := rowB 32 (dF z)) Tryd.results117 Tryd.underlying46 rfl info_id rfl (by simp [go_sem]) rfl (post_mk rfl (by (try show Ex _ _); with_reducible repeat (first | exact ex_refl _ | assumption | refine ex_drewL ?_ | refine ex_appR ?_ _ | refine ex_wx ?_ _ | refine ex_drew ?_ | refine ex_alloc ?_ _)))
      · obtain ⟨x, rfl⟩ := List.length_eq_one_iff.1 hl
        rw [topC_one]
        obtain ⟨g, off, rfl, hg, hcell⟩ := hs.pos (by simp)
        have h1 := hcell 0 x rfl
        have hx := hf x (by simp)
        clear hcell ih hs hf
        obtain ⟨v, h1, hv⟩ := h1
        rw [Nat.add_zero] at h1
        have hx2 : x.length ≤ 90 := hx
        obtain ⟨va, vc, rfl, _, _, _⟩ := hv.out
        have HL := Lib.hid (fun w' (k : Ex w w') => leafB_any (l := x) (by omega) w' (hv.ex k))
        have HM : Hid (∀ w' v, Ex w w' → SlT w' v (zL x) → Calls Tryd.prog 61 #[I W, v] w' (Post w' (.agg (rowB 32 (dF (sumW W (zL x))))))) := Lib.hid fun w' v k h => wsum_any G W hW (ex_trans k0 k) h (by unfold zL; simp; omega)
        have HL2 : Hid (∀ w', Ex w w' → Calls Tryd.prog 118 #[.slice va x.length vc] w' (PostU w' (zL x))) := HL
        generalize sumW W (zL x) = r at HM ⊢
        clear HL hv hx
        go_enter Tryd.func117, Tryd.ntmps117
        go_wp2_with (first | (go_at_call 118; (with_reducible refine (HL2.out _ (by (try show Ex _ _); with_reducible repeat (first | exact ex_refl _ | assumption | refine ex_drewL ?_ | refine ex_appR ?_ _ | refine ex_wx ?_ _ | refine ex_drew ?_ | refine ex_alloc ?_ _))).mono ?_); rintro e w2 ⟨v2, rfl, hv2, X, rfl⟩; (try simp only [wx_wx, wx_drew] at hv2)) | (go_at_call 61; (with_reducible refine (HM.out _ _ (by (try show Ex _ _); with_reducible repeat (first | exact ex_refl _ | assumption | refine ex_drewL ?_ | refine ex_appR ?_ _ | refine ex_wx ?_ _ | refine ex_drew ?_ | refine ex_alloc ?_ _)) (hv2.slt.ex (by (try show Ex _ _); with_reducible repeat (first | exact ex_refl _ | assumption | refine ex_drewL ?_ | refine ex_appR ?_ _ | refine ex_wx ?_ _ | refine ex_drew ?_ | refine ex_alloc ?_ _)))).mono ?_); rintro e w2 ⟨rfl, X, rfl⟩))
        exact ret_row (cs := rowB 32 (dF r)) Tryd.results117 Tryd.underlying46 rfl info_id rfl (by simp [go_sem]) rfl (post_mk rfl (by (try show Ex _ _); with_reducible repeat (first | exact ex_refl _ | assumption | refine ex_drewL ?_ | refine ex_appR ?_ _ | refine ex_wx ?_ _ | refine ex_drew ?_ | refine ex_alloc ?_ _)))
    · have hk1 := split_lt (n := N) h2
      have hk2 := split_pos N
      have hr := topC_two (S := sumW W) (z := z) (cell := zL) (l := l) (by omega)
      rw [hl] at hr
      rw [hr]
      clear hr
      obtain ⟨g, off, rfl, hg, hcell⟩ := hs.pos (by omega)
      clear hcell
      have HT : Hid (∀ w', Ex w w' → Calls Tryd.prog 117 #[I W, .slice (some ⟨g, off, none⟩) (splitN N) c, .agg (rowB 32 (dF z)), .func (.func 118) #[] #[]] w' (Post w' (.agg (rowB 32 (dF (topC (sumW W) z zL (l.take (splitN N)))))))) :=
        Lib.hid fun w' k => ih _ hk1 _ _ c w' (by rw [List.length_take]; omega) (by omega) (by omega) (by unfold maxLen; omega) ((hs.take _).ex k) (fun p hp => hf p (List.mem_of_mem_take hp)) (ex_trans k0 k)
      have HD : Hid (∀ w', Ex w w' → Calls Tryd.prog 117 #[I W, .slice (some ⟨g, off + splitN N, none⟩) (N - splitN N) (c - splitN N), .agg (rowB 32 (dF z)), .func (.func 118) #[] #[]] w' (Post w' (.agg (rowB 32 (dF (topC (sumW W) z zL (l.drop (splitN N)))))))) :=
        Lib.hid fun w' k => ih _ (by omega) _ _ _ w' (by rw [List.length_drop]; omega) (by omega) (by omega) (by unfold maxLen; omega) ((hs.drop _).ex k) (fun p hp => hf p (List.mem_of_mem_drop hp)) (ex_trans k0 k)
      have HS := Lib.hid (fun w => split_at N w h2 (by omega))
      generalize topC (sumW W) z zL (l.take (splitN N)) = x at HT ⊢
      generalize topC (sumW W) z zL (l.drop (splitN N)) = y at HD ⊢
      have H2 := Lib.hid (fun w => two_any x y w)
      have HM : Hid (∀ w' v, Ex w w' → SlT w' v (twoL x y) → Calls Tryd.prog 61 #[I W, v] w' (Post w' (.agg (rowB 32 (dF (sumW W (twoL x y))))))) := Lib.hid fun w' v k h => wsum_any G W hW (ex_trans k0 k) h (by rw [twoL_len]; omega)
      generalize sumW W (twoL x y) = r at HM ⊢
      generalize splitN N = k at hk1 hk2 HT HD HS
      have e0 : ((N : Int) == 0) = false := beq_eq_false_iff_ne.2 (by omega)
      have e1 : ((N : Int) == 1) = false := beq_eq_false_iff_ne.2 (by omega)
      have e2 : (k : Int) ≤ N := by omega
      have e3 : (k : Int) ≤ c := by omega
      have e4 : ¬ c = k := by omega
      have e5 : (N : Int) ≤ c := by omega
      clear ih hs hl h2 hN hf k0
      go_enter Tryd.func117, Tryd.ntmps117
      go_wp2_with (go_at_call 133; (with_reducible refine (HS.out _).mono ?_); rintro e w' ⟨rfl, rfl⟩)
      refine wp_region_mix [(0, true), (1, true), (2, true), (3, true), (4, true), (5, true), (6, true), (8, true), (9, true), (10, true), (11, true), (12, true), (13, true), (7, false), (14, false), (15, false), (16, false)] 17 (by kernel_rfl) (by kernel_rfl) (fun _ _ d _ _ h => by cases d <;> exact h) ?_
      simp only [List.map_cons, List.map_nil, nth, List.drop_succ_cons, List.drop_zero]
      repeat (first | (refine wpMix_look ?_; go_big_quiet_step (fail); refine wpQuiet_nil ?_) | (refine wpMix_eff rfl (fun X1 => ?_); go_wp2_with (first | (go_at_call 117; (with_reducible refine (HT.out _ (by (try show Ex _ _); with_reducible repeat (first | exact ex_refl _ | assumption | refine ex_drewL ?_ | refine ex_appR ?_ _ | refine ex_wx ?_ _ | refine ex_drew ?_ | refine ex_alloc ?_ _))).mono ?_); rintro e w2 ⟨rfl, X, rfl⟩) | (go_at_call 117; (with_reducible refine (HD.out _ (by (try show Ex _ _); with_reducible repeat (first | exact ex_refl _ | assumption | refine ex_drewL ?_ | refine ex_appR ?_ _ | refine ex_wx ?_ _ | refine ex_drew ?_ | refine ex_alloc ?_ _))).mono ?_); rintro e w2 ⟨rfl, X, rfl⟩) | (go_at_call 134; (with_reducible refine (H2.out _).mono ?_); rintro e w2 ⟨v2, rfl, hv2, X, rfl⟩; (try simp only [wx_wx, wx_drew] at hv2)) | (go_at_call 61; (with_reducible refine (HM.out _ _ (by (try show Ex _ _); with_reducible repeat (first | exact ex_refl _ | assumption | refine ex_drewL ?_ | refine ex_appR ?_ _ | refine ex_wx ?_ _ | refine ex_drew ?_ | refine ex_alloc ?_ _)) (hv2.slt.ex (by (try show Ex _ _); with_reducible repeat (first | exact ex_refl _ | assumption | refine ex_drewL ?_ | refine ex_appR ?_ _ | refine ex_wx ?_ _ | refine ex_drew ?_ | refine ex_alloc ?_ _)))).mono ?_); rintro e w2 ⟨rfl, X, rfl⟩)); refine mixQ_mk (by first | exact ex_refl _ | exact ⟨_, rfl⟩ | exact ex_app _ _ _ | (simp only [wx_wx, wx_drew]; first | exact ex_refl _ | exact ex_app _ _ _ | exact ⟨_, rfl⟩) | (repeat (first | exact ex_refl _ | refine ex_drew ?_ | refine ex_alloc ?_ _ | refine ex_wx ?_ _))) ?_))
      refine wpMix_nil (fun X2 => ?_)
      go_wp2
      exact ret_row (cs := rowB 32 (dF r)) Tryd.results117 Tryd.underlying46 rfl info_id rfl (by simp [go_sem]) rfl (post_mk rfl (by (try show Ex _ _); with_reducible repeat (first | exact ex_refl _ | assumption | refine ex_drewL ?_ | refine ex_appR ?_ _ | refine ex_wx ?_ _ | refine ex_drew ?_ | refine ex_alloc ?_ _)))
set_option maxHeartbeats 1000000 in
theorem overCl_any {w0 : World} (G : Glob w0) (W : Nat) (hW : W ≤ 256) (z : Dg) (N : Nat) : ∀ (l : List Pr) (a : Option Addr) (c : Nat) (w : World), l.length = N → N ≤ 1024 → N ≤ c → c ≤ maxLen → SlP w a l → FitL l → Ex w0 w →
    Calls Tryd.prog 119 #[I W, .slice a N c, .agg (rowB 32 (dF z)), .func (.func 120) #[] #[]] w (Post w (.agg (rowB 32 (dF (topC (sumW W) z leafL l))))) := by
  induction N using Nat.strongRecOn with
  | ind N ih =>
    intro l a c w hl hN hc hcm hs hf k0
    unfold maxLen at hcm
    rcases Nat.lt_or_ge N 2 with h2 | h2
    · have h01 : N = 0 ∨ N = 1 := by omega
      rcases h01 with rfl | rfl
      · obtain rfl := List.eq_nil_of_length_eq_zero hl
        have hr : topC (sumW W) z leafL [] = z := overC_nil _
        rw [hr]
        clear ih hs hf hr
        go_enter Tryd.func119, Tryd.ntmps119
        go_wp2
        exact ret_row (cs := rowB 32 (dF z)) Tryd.results119 Tryd.underlying46 rfl info_id rfl (by simp [go_sem]) rfl (post_mk rfl (by (try show Ex _ _); with_reducible repeat (first | exact ex_refl _ | assumption | refine ex_drewL ?_ | refine ex_appR ?_ _ | refine ex_wx ?_ _ | refine ex_drew ?_ | refine ex_alloc ?_ _)))
      · obtain ⟨x, rfl⟩ := List.length_eq_one_iff.1 hl
        rw [topC_one]
        obtain ⟨g, off, rfl, hg, hcell⟩ := hs.pos (by simp)
        have h1 := hcell 0 x rfl
        have hx := hf x (by simp)
        clear hcell ih hs hf
        rw [Nat.zero_mul, Nat.add_zero] at h1
        have hx2 : FitP x := hx
        have HL := Lib.hid (fun w' => cellB_any x hx2 w')
        have HM : Hid (∀ w' v, Ex w w' → SlT w' v (leafL x) → Calls Tryd.prog 61 #[I W, v] w' (Post w' (.agg (rowB 32 (dF (sumW W (leafL x))))))) := Lib.hid fun w' v k h => wsum_any G W hW (ex_trans k0 k) h (by have := leafL_short (p := x); omega)
        generalize sumW W (leafL x) = r at HM ⊢
        clear hx hx2
        go_enter Tryd.func119, Tryd.ntmps119
        go_wp2_with (first | (go_at_call 120; (with_reducible refine (HL.out _).mono ?_); rintro e w2 ⟨v2, rfl, hv2, X, rfl⟩; (try simp only [wx_wx, wx_drew] at hv2)) | (go_at_call 61; (with_reducible refine (HM.out _ _ (by (try show Ex _ _); with_reducible repeat (first | exact ex_refl _ | assumption | refine ex_drewL ?_ | refine ex_appR ?_ _ | refine ex_wx ?_ _ | refine ex_drew ?_ | refine ex_alloc ?_ _)) (hv2.slt.ex (by (try show Ex _ _); with_reducible repeat (first | exact ex_refl _ | assumption | refine ex_drewL ?_ | refine ex_appR ?_ _ | refine ex_wx ?_ _ | refine ex_drew ?_ | refine ex_alloc ?_ _)))).mono ?_); rintro e w2 ⟨rfl, X, rfl⟩))
        exact ret_row (cs := rowB 32 (dF r)) Tryd.results119 Tryd.underlying46 rfl info_id rfl (by simp [go_sem]) rfl (post_mk rfl (by (try show Ex _ _); with_reducible repeat (first | exact ex_refl _ | assumption | refine ex_drewL ?_ | refine ex_appR ?_ _ | refine ex_wx ?_ _ | refine ex_drew ?_ | refine ex_alloc ?_ _)))
    · have hk1 := split_lt (n := N) h2
      have hk2 := split_pos N
      have hr := topC_two (S := sumW W) (z := z) (cell := leafL) (l := l) (by omega)
      rw [hl] at hr
      rw [hr]
      clear hr
      obtain ⟨g, off, rfl, hg, hcell⟩ := hs.pos (by omega)
      clear hcell
      have HT : Hid (∀ w', Ex w w' → Calls Tryd.prog 119 #[I W, .slice (some ⟨g, off, none⟩) (splitN N) c, .agg (rowB 32 (dF z)), .func (.func 120) #[] #[]] w' (Post w' (.agg (rowB 32 (dF (topC (sumW W) z leafL (l.take (splitN N)))))))) :=
        Lib.hid fun w' k => ih _ hk1 _ _ c w' (by rw [List.length_take]; omega) (by omega) (by omega) (by unfold maxLen; omega) ((hs.take _).ex k) (fun p hp => hf p (List.mem_of_mem_take hp)) (ex_trans k0 k)
      have HD : Hid (∀ w', Ex w w' → Calls Tryd.prog 119 #[I W, .slice (some ⟨g, off + splitN N* 2, none⟩) (N - splitN N) (c - splitN N), .agg (rowB 32 (dF z)), .func (.func 120) #[] #[]] w' (Post w' (.agg (rowB 32 (dF (topC (sumW W) z leafL (l.drop (splitN N)))))))) :=
        Lib.hid fun w' k => ih _ (by omega) _ _ _ w' (by rw [List.length_drop]; omega) (by omega) (by omega) (by unfold maxLen; omega) ((hs.drop _).ex k) (fun p hp => hf p (List.mem_of_mem_drop hp)) (ex_trans k0 k)
      have HS := Lib.hid (fun w => split_at N w h2 (by omega))
      generalize topC (sumW W) z leafL (l.take (splitN N)) = x at HT ⊢
      generalize topC (sumW W) z leafL (l.drop (splitN N)) = y at HD ⊢
      have H2 := Lib.hid (fun w => two_any x y w)
      have HM : Hid (∀ w' v, Ex w w' → SlT w' v (twoL x y) → Calls Tryd.prog 61 #[I W, v] w' (Post w' (.agg (rowB 32 (dF (sumW W (twoL x y))))))) := Lib.hid fun w' v k h => wsum_any G W hW (ex_trans k0 k) h (by rw [twoL_len]; omega)
      generalize sumW W (twoL x y) = r at HM ⊢
      generalize splitN N = k at hk1 hk2 HT HD HS
      have e0 : ((N : Int) == 0) = false := beq_eq_false_iff_ne.2 (by omega)
      have e1 : ((N : Int) == 1) = false := beq_eq_false_iff_ne.2 (by omega)
      have e2 : (k : Int) ≤ N := by omega
      have e3 : (k : Int) ≤ c := by omega
      have e4 : ¬ c = k := by omega
      have e5 : (N : Int) ≤ c := by omega
      clear ih hs hl h2 hN hf k0
      go_enter Tryd.func119, Tryd.ntmps119
      go_wp2_with (go_at_call 133; (with_reducible refine (HS.out _).mono ?_); rintro e w' ⟨rfl, rfl⟩)
      refine wp_region_mix [(0, true), (1, true), (2, true), (3, true), (4, true), (5, true), (6, true), (8, true), (9, true), (10, true), (11, true), (12, true), (13, true), (7, false), (14, false), (15, false), (16, false)] 17 (by kernel_rfl) (by kernel_rfl) (fun _ _ d _ _ h => by cases d <;> exact h) ?_
      simp only [List.map_cons, List.map_nil, nth, List.drop_succ_cons, List.drop_zero]
      repeat (first | (refine wpMix_look ?_; go_big_quiet_step (fail); refine wpQuiet_nil ?_) | (refine wpMix_eff rfl (fun X1 => ?_); go_wp2_with (first | (go_at_call 119; (with_reducible refine (HT.out _ (by (try show Ex _ _); with_reducible repeat (first | exact ex_refl _ | assumption | refine ex_drewL ?_ | refine ex_appR ?_ _ | refine ex_wx ?_ _ | refine ex_drew ?_ | refine ex_alloc ?_ _))).mono ?_); rintro e w2 ⟨rfl, X, rfl⟩) | (go_at_call 119; (with_reducible refine (HD.out _ (by (try show Ex _ _); with_reducible repeat (first | exact ex_refl _ | assumption | refine ex_drewL ?_ | refine ex_appR ?_ _ | refine ex_wx ?_ _ | refine ex_drew ?_ | refine ex_alloc ?_ _))).mono ?_); rintro e w2 ⟨rfl, X, rfl⟩) | (go_at_call 134; (with_reducible refine (H2.out _).mono ?_); rintro e w2 ⟨v2, rfl, hv2, X, rfl⟩; (try simp only [wx_wx, wx_drew] at hv2)) | (go_at_call 61; (with_reducible refine (HM.out _ _ (by (try show Ex _ _); with_reducible repeat (first | exact ex_refl _ | assumption | refine ex_drewL ?_ | refine ex_appR ?_ _ | refine ex_wx ?_ _ | refine ex_drew ?_ | refine ex_alloc ?_ _)) (hv2.slt.ex (by (try show Ex _ _); with_reducible repeat (first | exact ex_refl _ | assumption | refine ex_drewL ?_ | refine ex_appR ?_ _ | refine ex_wx ?_ _ | refine ex_drew ?_ | refine ex_alloc ?_ _)))).mono ?_); rintro e w2 ⟨rfl, X, rfl⟩)); refine mixQ_mk (by first | exact ex_refl _ | exact ⟨_, rfl⟩ | exact ex_app _ _ _ | (simp only [wx_wx, wx_drew]; first | exact ex_refl _ | exact ex_app _ _ _ | exact ⟨_, rfl⟩) | (repeat (first | exact ex_refl _ | refine ex_drew ?_ | refine ex_alloc ?_ _ | refine ex_wx ?_ _))) ?_))
      refine wpMix_nil (fun X2 => ?_)
      go_wp2
      exact ret_row (cs := rowB 32 (dF r)) Tryd.results119 Tryd.underlying46 rfl info_id rfl (by simp [go_sem]) rfl (post_mk rfl (by (try show Ex _ _); with_reducible repeat (first | exact ex_refl _ | assumption | refine ex_drewL ?_ | refine ex_appR ?_ _ | refine ex_wx ?_ _ | refine ex_drew ?_ | refine ex_alloc ?_ _)))
set_option maxHeartbeats 1000000 in
theorem wroot_any {w0 : World} (G : Glob w0) (W : Nat) (hW : W ≤ 256) (l : List (List UInt8)) (a : Option Addr) (c : Nat) (w : World) (hl : l.length ≤ 1024) (hc : l.length ≤ c) (hcm : c ≤ maxLen) (hs : SlLs w a l) (hf : ShortL l) (k0 : Ex w0 w) :
    Calls Tryd.prog 76 #[I W, .slice a l.length c] w (Post w (.agg (rowB 32 (dF (rootC (sumW W) l))))) := by
  rw [rootC_top]
  have HM : Hid (∀ w', Ex w w' → Calls Tryd.prog 61 #[I W, .slice none 0 0] w' (Post w' (.agg (rowB 32 (dF (sumW W [])))))) := Lib.hid fun w' k => wsum_any G W hW (ex_trans k0 k) (slt_nil _) (by simp)
  have HO : Hid (∀ w', Ex w w' → Calls Tryd.prog 117 #[I W, .slice a l.length c, .agg (rowB 32 (dF (sumW W []))), .func (.func 118) #[] #[]] w' (Post w' (.agg (rowB 32 (dF (topC (sumW W) (sumW W []) zL l)))))) := Lib.hid fun w' k => overL_any G W hW _ l.length l a c w' rfl hl hc hcm (hs.ex k) hf (ex_trans k0 k)
  generalize topC (sumW W) (sumW W []) zL l = r at HO ⊢
  generalize sumW W [] = z at HM HO
  generalize l.length = n at HO hl hc ⊢
  clear hs hf
  go_enter Tryd.func76, Tryd.ntmps76
  go_wp2_with (first | (go_at_call 61; (with_reducible refine (HM.out _ (by (try show Ex _ _); with_reducible repeat (first | exact ex_refl _ | assumption | refine ex_drewL ?_ | refine ex_appR ?_ _ | refine ex_wx ?_ _ | refine ex_drew ?_ | refine ex_alloc ?_ _))).mono ?_); rintro e w2 ⟨rfl, X, rfl⟩) | (go_at_call 117; (with_reducible refine (HO.out _ (by (try show Ex _ _); with_reducible repeat (first | exact ex_refl _ | assumption | refine ex_drewL ?_ | refine ex_appR ?_ _ | refine ex_wx ?_ _ | refine ex_drew ?_ | refine ex_alloc ?_ _))).mono ?_); rintro e w2 ⟨rfl, X, rfl⟩))
  exact ret_row (cs := rowB 32 (dF r)) Tryd.results76 Tryd.underlying46 rfl info_id rfl (by simp [go_sem]) rfl (post_mk rfl (by (try show Ex _ _); with_reducible repeat (first | exact ex_refl _ | assumption | refine ex_drewL ?_ | refine ex_appR ?_ _ | refine ex_wx ?_ _ | refine ex_drew ?_ | refine ex_alloc ?_ _)))
set_option maxHeartbeats 1000000 in
theorem wtopP_any {w0 : World} (G : Glob w0) (W : Nat) (hW : W ≤ 256) (l : List Pr) (a : Option Addr) (c : Nat) (w : World) (hl : l.length ≤ 1024) (hc : l.length ≤ c) (hcm : c ≤ maxLen) (hs : SlP w a l) (hf : FitL l) (k0 : Ex w0 w) :
    Calls Tryd.prog 78 #[I W, .slice a l.length c] w (Post w (.agg (rowB 32 (dF (topC (sumW W) zeroD leafL l))))) := by
  have HO : Hid (∀ w', Ex w w' → Calls Tryd.prog 119 #[I W, .slice a l.length c, .agg (rowB 32 (dF zeroD)), .func (.func 120) #[] #[]] w' (Post w' (.agg (rowB 32 (dF (topC (sumW W) zeroD leafL l)))))) := Lib.hid fun w' k => overCl_any G W hW _ l.length l a c w' rfl hl hc hcm (hs.ex k) hf (ex_trans k0 k)
  rw [row_zeroC] at HO
  generalize topC (sumW W) zeroD leafL l = r at HO ⊢
  generalize l.length = n at HO hl hc ⊢
  clear hs hf
  go_enter Tryd.func78, Tryd.ntmps78
  go_wp2_with ((go_at_call 119; (with_reducible refine (HO.out _ (by (try show Ex _ _); with_reducible repeat (first | exact ex_refl _ | assumption | refine ex_drewL ?_ | refine ex_appR ?_ _ | refine ex_wx ?_ _ | refine ex_drew ?_ | refine ex_alloc ?_ _))).mono ?_); rintro e w2 ⟨rfl, X, rfl⟩))
  exact ret_row (cs := rowB 32 (dF r)) Tryd.results78 Tryd.underlying46 rfl info_id rfl (by simp [go_sem]) rfl (post_mk rfl (by (try show Ex _ _); with_reducible repeat (first | exact ex_refl _ | assumption | refine ex_drewL ?_ | refine ex_appR ?_ _ | refine ex_wx ?_ _ | refine ex_drew ?_ | refine ex_alloc ?_ _)))
end Go.Proofs.YtcdocklbpfdmeaaDoor
