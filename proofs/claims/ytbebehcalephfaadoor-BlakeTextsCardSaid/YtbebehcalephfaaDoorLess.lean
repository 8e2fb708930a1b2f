/- Bytes that are held against bytes: slices.Equal, bytes.Compare, Less of both texts. -/
import Derived.Test.YtbebehcalephfaaDoorSl
import Derived.Test.YtbebehcalephfaaDoorApp
import Derived.Lib.BytesEntry
import Derived.Lib.Bytealg
set_option linter.unusedSimpArgs false
set_option linter.unusedVariables false
set_option maxRecDepth 20000
namespace Go.Proofs.YtbebehcalephfaaDoor
open Go.RowKit
/-- Are the first n bytes the same? -/
def eqN (f g : Nat → UInt8) (n : Nat) : Bool := decide (∀ i, i < n → f i = g i)
theorem eqN_true {f g : Nat → UInt8} {n : Nat} : eqN f g n = true ↔ ∀ i, i < n → f i = g i := by simp [eqN]
/-- Does the first byte that differs stand lower? -/
def ltN (f g : Nat → UInt8) : Nat → Bool
  | 0 => false
  | n + 1 => if f 0 = g 0 then ltN (fun i => f (i + 1)) (fun i => g (i + 1)) n else decide (f 0 < g 0)
theorem ltN_eq {n : Nat} : ∀ {f g : Nat → UInt8}, (∀ i, i < n → f i = g i) → ltN f g n = false := by
  induction n with
  | zero => intro f g _; rfl
  | succ n ih => intro f g h; unfold ltN; rw [if_pos (h 0 (by omega))]; exact ih fun i hi => h (i + 1) (by omega)
theorem ltN_at {n : Nat} : ∀ {f g : Nat → UInt8} {k : Nat}, k < n → (∀ i, i < k → f i = g i) → f k ≠ g k → ltN f g n = decide (f k < g k) := by
  induction n with
  | zero => intro f g k h; omega
  | succ n ih =>
    intro f g k hk h hne
    unfold ltN
    cases k with
    | zero => rw [if_neg hne]
    | succ k => rw [if_pos (h 0 (by omega))]; exact ih (by omega) (fun i hi => h (i + 1) (by omega)) hne
def rowL (f : Nat → UInt8) (n : Nat) : List UInt8 := (List.range n).map f
theorem rowL_succ (f : Nat → UInt8) (n : Nat) : rowL f (n + 1) = f 0 :: rowL (fun i => f (i + 1)) n := by
  unfold rowL
  rw [List.range_succ_eq_map, List.map_cons, List.map_map]; rfl
theorem cmp_ltN : ∀ (n : Nat) (f g : Nat → UInt8), decide (Lib.compareBytes (rowL f n) (rowL g n) < 0) = ltN f g n
  | 0, f, g => rfl
  | n + 1, f, g => by
    rw [rowL_succ, rowL_succ]
    unfold Lib.compareBytes ltN
    by_cases h : f 0 = g 0
    · rw [if_pos h, h, if_neg (UInt8.lt_irrefl _), if_neg (UInt8.lt_irrefl _)]; exact cmp_ltN n _ _
    · rw [if_neg h]
      by_cases h2 : f 0 < g 0
      · rw [if_pos h2, decide_eq_true h2]; rfl
      · have h3 : g 0 < f 0 := by rcases UInt8.lt_or_lt_of_ne h with h | h; exact absurd h h2; exact h
        rw [if_neg h2, if_pos h3, decide_eq_false h2]; rfl
theorem run_bytesOf {P : Program} (w : World) (g off n c : Nat) (f : Nat → UInt8) (h : ∀ j, j < n → w.cell? ⟨g, off + j, none⟩ = some (B (f j))) :
    (Extern.Bytes.bytesOf (.slice (some ⟨g, off, none⟩) n c)).run P w = .ok ⟨(rowL f n).toArray⟩ w := by
  have hx := Lib.run_loadBytesX (P := P) w ((List.range n).map fun i => bn (f i)) ⟨g, off, none⟩ .empty (fun j x hj => by
    have hj2 : j < n := by
      have := (List.getElem?_eq_some_iff.1 hj).1
      simpa using this
    simp [List.getElem?_range hj2] at hj
    subst hj
    have hadd : (⟨g, off, none⟩ : Addr).add j = ⟨g, off + j, none⟩ := by unfold Addr.add; split <;> simp_all
    rw [hadd, h j hj2])
  simp only [List.length_map, List.length_range] at hx
  simp only [Extern.Bytes.bytesOf, hx]
  have : (ByteArray.empty.data ++ (Lib.bytesOf ((List.range n).map fun i => bn (f i))).toArray) = (rowL f n).toArray := by
    have : ByteArray.empty.data = #[] := rfl
    rw [this]
    simp [Lib.bytesOf, rowL, bn, Function.comp_def]
  rw [this]
theorem run_compareRows {P : Program} (w : World) (g off n c g' off' n' c' : Nat) (f f' : Nat → UInt8) (h : ∀ j, j < n → w.cell? ⟨g, off + j, none⟩ = some (B (f j))) (h' : ∀ j, j < n' → w.cell? ⟨g', off' + j, none⟩ = some (B (f' j))) :
    (Extern.BytealgCompare.compare #[.slice (some ⟨g, off, none⟩) n c, .slice (some ⟨g', off', none⟩) n' c']).run P w = .ok (.int .i64 (Lib.compareBytes (rowL f n) (rowL f' n'))) w := by
  have e : ∀ x y : Value, Extern.BytealgCompare.compare #[x, y] = (do let p ← Extern.Bytes.bytesOf x; let q ← Extern.Bytes.bytesOf y; pure (goInt (Extern.BytealgCompare.cmp p q))) := fun _ _ => rfl
  simp only [e, Sem.run_bind, run_bytesOf w g off n c f h, run_bytesOf w g' off' n' c' f' h', Result.andThen_ok, Sem.run_pure, Lib.cmp_eq]; rfl
set_option maxHeartbeats 1000000 in
theorem compare_any (g off n c g' off' n' c' : Nat) (f f' : Nat → UInt8) (w : World) (h : ∀ j, j < n → w.cell? ⟨g, off + j, none⟩ = some (B (f j))) (h' : ∀ j, j < n' → w.cell? ⟨g', off' + j, none⟩ = some (B (f' j))) :
    Calls Tryd.prog 41 #[.slice (some ⟨g, off, none⟩) n c, .slice (some ⟨g', off', none⟩) n' c'] w fun e w' => e = .returned (.int .i64 (Lib.compareBytes (rowL f n) (rowL f' n'))) ∧ w = w' := by
  have hr := run_compareRows (P := Tryd.prog) w g off n c g' off' n' c' f f' h h'
  clear h h'
  go_enter Tryd.func41, Tryd.ntmps41
  go_wp2
  rw [run_callFunc_extern Tryd.func45 (by kernel_rfl) (by kernel_rfl) (by kernel_rfl) (e := Extern.BytealgCompare.compare) (by kernel_rfl), hr]
  simp only [Result.andThen]
  rw [Oper.upon_value]
  go_wp2
  go_ret
  exact ⟨rfl, rfl⟩
set_option maxHeartbeats 1000000 in
theorem equal_any (a a' : Option Addr) (n c n' c' : Nat) (f f' : Nat → UInt8) (w : World) (hs : SlB w a n f) (hs' : SlB w a' n' f') (hn : n ≤ maxLen) (hn' : n' ≤ maxLen) :
    Calls Tryd.prog 23 #[.slice a n c, .slice a' n' c'] w (Post w (.bool (decide (n = n') && eqN f f' n))) := by
  unfold maxLen at hn hn'
  by_cases he : n = n'
  · subst he
    have h0 : ((n : Int) != n) = false := by simp
    rw [decide_eq_true rfl, Bool.true_and]
    go_enter Tryd.func23, Tryd.ntmps23
    go_wp2
    go_loopw [13] (fun i wr => ∃ k : Nat, k ≤ n ∧ i = I k ∧ (∀ j, j < k → f j = f' j) ∧ Ex w wr) (fun i _ => n - (intOf i).toNat)
    case atStart => exact ⟨0, by omega, rfl, fun j hj => by omega, ex_refl _⟩
    case round =>
      obtain ⟨k, hk, rfl, heq, X, rfl⟩ := hrel
      have HQ := Lib.hid heq
      clear heq
      by_cases hlt : k < n
      · obtain ⟨g, off, rfl, hg, hc⟩ := hs.pos (by omega)
        obtain ⟨g', off', rfl, hg', hc'⟩ := hs'.pos (by omega)
        have c1 := hc k hlt
        have c2 := hc' k hlt
        clear hc hc'
        by_cases hd : f k = f' k
        · have hd2 : (bn (f k) != bn (f' k)) = false := by rw [hd]; simp
          have HD := Lib.hid hd
          clear hd
          go_wp2
          refine wp_region_mix [(0, true), (1, true), (2, true), (3, true), (4, true), (5, true), (6, true), (7, true), (8, true)] 9 (by kernel_rfl) (by kernel_rfl) (fun _ _ d _ _ h => by cases d <;> exact h) ?_
          simp only [List.map_cons, List.map_nil, nth, List.drop_succ_cons, List.drop_zero]
          repeat (first | (refine wpMix_look ?_; go_big_quiet_step (fail); refine wpQuiet_nil ?_) | (refine wpMix_eff rfl (fun X1 => ?_); go_wp2_with (fail); refine mixQ_mk (by first | exact ex_refl _ | exact ⟨_, rfl⟩ | exact ex_app _ _ _ | (simp only [wx_wx, wx_drew]; first | exact ex_refl _ | exact ex_app _ _ _ | exact ⟨_, rfl⟩) | (repeat (first | exact ex_refl _ | refine ex_drew ?_ | refine ex_alloc ?_ _ | refine ex_wx ?_ _))) ?_))
          refine wpMix_nil (fun X2 => ?_)
          go_wp2
          refine ⟨⟨k + 1, by omega, by go_num, fun j hj => ?_, (by repeat (first | exact ex_refl _ | refine ex_appR ?_ _ | refine ex_wx ?_ _ | refine ex_drew ?_ | refine ex_alloc ?_ _))⟩, by simp [intOf]; omega⟩
          by_cases h : j = k
          · rw [h]; exact HD.out
          · exact HQ.out j (by omega)
        · have hd2 : (bn (f k) != bn (f' k)) = true := by
            rw [bne_iff_ne]; exact fun h => hd (bn_inj h)
          have hb : eqN f f' n = false := by
            rw [← Bool.not_eq_true, eqN_true]; exact fun h => hd (h k hlt)
          clear hd
          go_wp2
          refine wp_region_mix [(0, true), (1, true), (2, true), (3, true), (4, true), (5, true), (6, true), (7, true), (8, true)] 9 (by kernel_rfl) (by kernel_rfl) (fun _ _ d _ _ h => by cases d <;> exact h) ?_
          simp only [List.map_cons, List.map_nil, nth, List.drop_succ_cons, List.drop_zero]
          repeat (first | (refine wpMix_look ?_; go_big_quiet_step (fail); refine wpQuiet_nil ?_) | (refine wpMix_eff rfl (fun X1 => ?_); go_wp2_with (fail); refine mixQ_mk (by first | exact ex_refl _ | exact ⟨_, rfl⟩ | exact ex_app _ _ _ | (simp only [wx_wx, wx_drew]; first | exact ex_refl _ | exact ex_app _ _ _ | exact ⟨_, rfl⟩) | (repeat (first | exact ex_refl _ | refine ex_drew ?_ | refine ex_alloc ?_ _ | refine ex_wx ?_ _))) ?_))
          refine wpMix_nil (fun X2 => ?_)
          go_wp2
          go_ret
          exact post_mk (by rw [hb]; rfl) (by repeat (first | exact ex_refl _ | refine ex_appR ?_ _ | refine ex_wx ?_ _ | refine ex_drew ?_ | refine ex_alloc ?_ _))
      · obtain rfl : k = n := by omega
        have hb : eqN f f' k = true := eqN_true.2 HQ.out
        go_wp2
        go_ret
        exact post_mk (by rw [hb]; rfl) (by repeat (first | exact ex_refl _ | refine ex_appR ?_ _ | refine ex_wx ?_ _ | refine ex_drew ?_ | refine ex_alloc ?_ _))
  · have h0 : ((n : Int) != n') = true := by rw [bne_iff_ne]; omega
    rw [decide_eq_false he, Bool.false_and]
    go_enter Tryd.func23, Tryd.ntmps23
    go_wp2
    go_ret
    exact post_mk rfl (by repeat (first | exact ex_refl _ | refine ex_appR ?_ _ | refine ex_wx ?_ _ | refine ex_drew ?_ | refine ex_alloc ?_ _))
set_option maxHeartbeats 1000000 in
theorem octequal_any (a a' : Option Addr) (n c n' c' : Nat) (f f' : Nat → UInt8) (w : World) (hs : SlB w a n f) (hs' : SlB w a' n' f') (hn : n ≤ maxLen) (hn' : n' ≤ maxLen) :
    Calls Tryd.prog 40 #[.slice a n c, .slice a' n' c'] w (Post w (.bool (decide (n = n') && eqN f f' n))) := by
  generalize hb : (decide (n = n') && eqN f f' n) = b
  have HB := Lib.hid hb
  clear hb
  go_enter Tryd.func40, Tryd.ntmps40
  go_wp2_with (go_at_call 23; refine (equal_any a a' n c n' c' f f' _ hs hs' hn hn').mono ?_; rw [HB.out]; rintro e w' ⟨rfl, X, rfl⟩)
  go_ret
  exact post_mk rfl (by repeat (first | exact ex_refl _ | refine ex_appR ?_ _ | refine ex_wx ?_ _ | refine ex_drew ?_ | refine ex_alloc ?_ _))
/-- A variable of 32 bytes, as a slice. -/
theorem sl_row {w : World} {p : Nat} {n : Nat} {f : Nat → UInt8} (hp : p < w.heap.size) (h : cellsN w p 0 n = some (rowB n f)) : SlB w (some ⟨p, 0, none⟩) n f :=
  SlB.mk' hp fun j hj => by rw [cellsN_cell h j hj, rowB_get, if_pos hj]
set_option maxHeartbeats 1000000 in
theorem less_any (f g : Nat → UInt8) (w : World) :
    Calls Tryd.prog 27 #[.agg (rowB 32 f), .agg (rowB 32 g)] w (Post w (.bool (ltN f g 32))) := by
  have hcmp := cmp_ltN 32 f g
  cases he : eqN f g 32
  · obtain ⟨z, hz⟩ : ∃ z, Lib.compareBytes (rowL f 32) (rowL g 32) = z := ⟨_, rfl⟩
    rw [hz] at hcmp
    have HC := Lib.hid hcmp
    have HZ := Lib.hid hz
    have HE := Lib.hid he
    clear hcmp hz he
    go_enter Tryd.func27, Tryd.ntmps27
    go_wp2
    refine wp_region_mix [(0, true), (1, true), (2, false), (3, true), (4, true), (5, true), (6, true), (7, false), (8, true), (9, true), (10, true)] 11 (by kernel_rfl) (by kernel_rfl) (fun _ _ d _ _ h => by cases d <;> exact h) ?_
    simp only [List.map_cons, List.map_nil, nth, List.drop_succ_cons, List.drop_zero]
    repeat (first | (refine wpMix_look ?_; go_big_quiet_step (fail); refine wpQuiet_nil ?_) | (refine wpMix_eff rfl (fun X1 => ?_); go_wp2_with (first | (go_at_call 40; refine (octequal_any _ _ 32 32 32 32 f g _ (sl_row (by simp [go_sem]) (by simp [go_sem])) (sl_row (by simp [go_sem]) (by simp [go_sem])) (by decide) (by decide)).mono ?_; rw [HE.out]; rintro e w' ⟨rfl, X, rfl⟩) | (go_at_call 41; refine (compare_any _ 0 32 32 _ 0 32 32 f g _ (fun j hj => by simp [go_sem, hj]) (fun j hj => by simp [go_sem, hj])).mono ?_; rw [HZ.out]; rintro e w' ⟨rfl, rfl⟩)); refine mixQ_mk (by first | exact ex_refl _ | exact ⟨_, rfl⟩ | exact ex_app _ _ _ | (simp only [wx_wx, wx_drew]; first | exact ex_refl _ | exact ex_app _ _ _ | exact ⟨_, rfl⟩) | (repeat (first | exact ex_refl _ | refine ex_drew ?_ | refine ex_alloc ?_ _ | refine ex_wx ?_ _))) ?_) | (refine wpMix_effF (by rfl) ?_; go_simp) | (refine wpMix_effT (by rfl) (fun X1 => ?_); go_wp2_with (first | (go_at_call 40; refine (octequal_any _ _ 32 32 32 32 f g _ (sl_row (by simp [go_sem]) (by simp [go_sem])) (sl_row (by simp [go_sem]) (by simp [go_sem])) (by decide) (by decide)).mono ?_; rw [HE.out]; rintro e w' ⟨rfl, X, rfl⟩) | (go_at_call 41; refine (compare_any _ 0 32 32 _ 0 32 32 f g _ (fun j hj => by simp [go_sem, hj]) (fun j hj => by simp [go_sem, hj])).mono ?_; rw [HZ.out]; rintro e w' ⟨rfl, rfl⟩)); refine mixQ_mk (by first | exact ex_refl _ | exact ⟨_, rfl⟩ | exact ex_app _ _ _ | (simp only [wx_wx, wx_drew]; first | exact ex_refl _ | exact ex_app _ _ _ | exact ⟨_, rfl⟩) | (repeat (first | exact ex_refl _ | refine ex_drew ?_ | refine ex_alloc ?_ _ | refine ex_wx ?_ _))) ?_))
    refine wpMix_nil (fun X2 => ?_)
    go_wp2
    go_ret
    exact post_mk (by rw [← HC.out]; rfl) (by repeat (first | exact ex_refl _ | refine ex_appR ?_ _ | refine ex_wx ?_ _ | refine ex_drew ?_ | refine ex_alloc ?_ _))
  · have hl : ltN f g 32 = false := ltN_eq (eqN_true.1 he)
    have HE := Lib.hid he
    rw [hl]
    clear he hl hcmp
    go_enter Tryd.func27, Tryd.ntmps27
    go_wp2
    refine wp_region_mix [(0, true), (1, true), (2, false), (3, true), (4, true), (5, true), (6, true), (7, false), (8, true), (9, true), (10, true)] 11 (by kernel_rfl) (by kernel_rfl) (fun _ _ d _ _ h => by cases d <;> exact h) ?_
    simp only [List.map_cons, List.map_nil, nth, List.drop_succ_cons, List.drop_zero]
    repeat (first | (refine wpMix_look ?_; go_big_quiet_step (fail); refine wpQuiet_nil ?_) | (refine wpMix_eff rfl (fun X1 => ?_); go_wp2_with (first | (go_at_call 40; refine (octequal_any _ _ 32 32 32 32 f g _ (sl_row (by simp [go_sem]) (by simp [go_sem])) (sl_row (by simp [go_sem]) (by simp [go_sem])) (by decide) (by decide)).mono ?_; rw [HE.out]; rintro e w' ⟨rfl, X, rfl⟩)); refine mixQ_mk (by first | exact ex_refl _ | exact ⟨_, rfl⟩ | exact ex_app _ _ _ | (simp only [wx_wx, wx_drew]; first | exact ex_refl _ | exact ex_app _ _ _ | exact ⟨_, rfl⟩) | (repeat (first | exact ex_refl _ | refine ex_drew ?_ | refine ex_alloc ?_ _ | refine ex_wx ?_ _))) ?_) | (refine wpMix_effF (by rfl) ?_; go_simp) | (refine wpMix_effT (by rfl) (fun X1 => ?_); go_wp2_with (first | (go_at_call 40; refine (octequal_any _ _ 32 32 32 32 f g _ (sl_row (by simp [go_sem]) (by simp [go_sem])) (sl_row (by simp [go_sem]) (by simp [go_sem])) (by decide) (by decide)).mono ?_; rw [HE.out]; rintro e w' ⟨rfl, X, rfl⟩)); refine mixQ_mk (by first | exact ex_refl _ | exact ⟨_, rfl⟩ | exact ex_app _ _ _ | (simp only [wx_wx, wx_drew]; first | exact ex_refl _ | exact ex_app _ _ _ | exact ⟨_, rfl⟩) | (repeat (first | exact ex_refl _ | refine ex_drew ?_ | refine ex_alloc ?_ _ | refine ex_wx ?_ _))) ?_))
    refine wpMix_nil (fun X2 => ?_)
    go_wp2
    go_ret
    exact post_mk rfl (by repeat (first | exact ex_refl _ | refine ex_appR ?_ _ | refine ex_wx ?_ _ | refine ex_drew ?_ | refine ex_alloc ?_ _))
end Go.Proofs.YtbebehcalephfaaDoor
