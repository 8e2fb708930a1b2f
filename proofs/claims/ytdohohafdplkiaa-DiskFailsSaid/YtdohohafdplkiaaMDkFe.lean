import Derived.Test.YtdohohafdplkiaaMDkFc

/- DiskFails, walked. -/
set_option linter.unusedSimpArgs false
set_option linter.unusedVariables false
set_option maxRecDepth 20000
namespace Go.Proofs.Ytdohohafdplkiaa
open Go.RowKit
set_option maxHeartbeats 2000000 in
theorem fails_any {w : World} {v : Value} {m : List (Ak × Value)} (h : AksV w v m) (a : Ak) (kv : Value) (hs : SlV1 KBo 1 w kv a.keep) (hb : AkB a) (n : Int) :
    Calls Try.prog 4 #[v, AV a kv, I n] w (Post w (.bool true)) := by
  -- the numbers
  have hu : ∀ x, IntKind.u64.wrap x = x % 18446744073709551616 := fun x => by rw [IntKind.wrap_u64]
  have hr := reA_r a
  have hrb := reA_b hb
  obtain ⟨n', hn', hn8⟩ := mod_kind (x := n) 8 (by omega)
  obtain ⟨k', hk'⟩ : ∃ k' : Int, (a.kind % 18446744073709551616).tmod 4 = k' := ⟨_, rfl⟩
  obtain ⟨j', hj'⟩ : ∃ j' : Int, (a.at' % 18446744073709551616).tmod 9 = j' := ⟨_, rfl⟩
  have hk0 : (reA a).kind = 3 + k' := by rw [← hk']; rfl
  have hj0 : (reA a).at' = j' := by rw [← hj']; rfl
  have hk4 : 0 ≤ k' ∧ k' ≤ 3 := by have := hr.k1; have := hr.k2; omega
  have hj9 : 0 ≤ j' ∧ j' < 9 := by have := hr.a1; have := hr.a2; omega
  have hkv : kv.oneCell' = true := by obtain ⟨ka, kc, rfl, _⟩ := hs.out; rfl
  have hlk : ∀ x : Int, (0 ≤ x % 18446744073709551616 ∧ x % 18446744073709551616 < 18446744073709551616) := fun x => by omega
  have uk := hlk a.kind
  have ua := hlk a.at'
  have un' := hlk n
  have huk := hu a.kind
  have hua := hu a.at'
  have hun := hu n
  generalize a.kind % 18446744073709551616 = mk at *
  generalize a.at' % 18446744073709551616 = ma at *
  generalize n % 18446744073709551616 = mn at *
  -- the worlds that the box lies in
  obtain ⟨wb, hwb⟩ : ∃ wb, w.alloc (boxA a kv) = wb := ⟨_, rfl⟩
  obtain ⟨wc, hwc⟩ : ∃ wc, w.alloc (boxA (reA a) kv) = wc := ⟨_, rfl⟩
  have kb : Ex w wb := by rw [← hwb]; exact ex_alloc (ex_refl _) _
  have kc : Ex w wc := by rw [← hwc]; exact ex_alloc (ex_refl _) _
  have HB : Hid (∀ W, Ex wb W → W.heap[w.heap.size]? = some (boxA a kv)) := Lib.hid fun W k => ex_block k (by rw [← hwb]; exact heap_alloc_new w _)
  have HB2 : Hid (∀ W, Ex wc W → W.heap[w.heap.size]? = some (boxA (reA a) kv)) := Lib.hid fun W k => ex_block k (by rw [← hwc]; exact heap_alloc_new w _)
  have HT : Hid (∀ W p d, DkO wb W p d → DkO wc ((W.setCell ⟨w.heap.size, 0, none⟩ (I (3 + k'))).setCell ⟨w.heap.size, 1, none⟩ (I j')) p d) := Lib.hid fun W p d hW => by
    rw [← hwb] at hW
    rw [← hwc, ← hk0, ← hj0]
    exact hW.turnBox (reA a) rfl
  -- the disk
  obtain ⟨D0, hD0⟩ : ∃ D0, asksD (newD 9) ((m.map (·.1)).take 70) = D0 := ⟨_, rfl⟩
  have hB0 : AsB 70 D0 := by rw [← hD0]; exact asked_b _
  obtain ⟨V, hV⟩ : ∃ V, viewD D0 [] = V := ⟨_, rfl⟩
  have hVl : V.length = 9 := by rw [← hV, view_len, hB0.len]
  obtain ⟨m0, hm0⟩ : ∃ m0, D0.ops = m0 := ⟨_, rfl⟩
  have hm70 : m0 ≤ 70 := by rw [← hm0]; exact hB0.ops
  have hD1 : crashD D0 [] = sD V [] (-1) (-1) m0 := by rw [crash_sD, hV, hm0]
  have HW := Lib.hid (wakes_any wb)
  have HA : Hid (∀ W, Ex wb W → Calls Try.prog 17 #[v] W fun e w' => ∃ p, e = .returned (PT p) ∧ DkO wb w' p D0) := Lib.hid fun W k => (asked_any (h.ex (ex_trans kb k))).mono fun e w' hh => by
    obtain ⟨p, rfl, h1⟩ := hh
    rw [hD0] at h1
    exact ⟨p, rfl, h1.base k⟩
  have HC : Hid (∀ W p, DkO wb W p D0 → Calls Try.prog 18 #[PT p, .slice none 0 0] W fun e w' => e = .returned (I 0) ∧ DkO wb w' p (sD V [] (-1) (-1) m0)) := Lib.hid fun W p hW => by
    have := crash_old hW (SlV1.nil KBo 1 wb) (fun g hg => by cases hg)
    rwa [hD1] at this
  have HV : Hid (∀ W p dm mm, mm ≤ 1000 → DkO wc W p (sD V [] (-1) dm mm) → Calls Try.prog 19 #[PT p, .slice none 0 0] W fun e w' => e = .returned (.tuple #[.agg (rowB 576 (nineF V)), .bool true]) ∧ Ex W w') := Lib.hid fun W p dm mm hmm hW => by
    have := view_o hW hVl (show mm < 1000000 by omega)
    rwa [sD_view] at this
  have hDk : ∀ k : Nat, k < n' → down ((n' - k : Nat) : Int) = ((n' - (k + 1) : Nat) : Int) := fun k hk => by
    rw [show ((n' - k : Nat) : Int) = ((n' - (k + 1) : Nat) : Int) + 1 by omega, down_p]
  have HF : Hid (∀ W p b o, DkH wc W p (sD V [] (-1) (-1) m0) b o → Calls Try.prog 20 #[PT p, I n'] W fun e w' => e = .returned (I 0) ∧ DkH wc w' p (sD V [] (-1) ((n' - 0 : Nat) : Int) (m0 + 0)) b o) := Lib.hid fun W p b o hW => hW.call fun L hL hh => by
    have := fail_any hh n' (by omega)
    rw [hL, sD_fail _ _ _ _ _ (by omega)] at this
    exact this
  have HR1 : Hid (∀ W p b o (k : Nat), k < n' → DkH wc W p (sD V [] (-1) ((n' - k : Nat) : Int) (m0 + k)) b o → Calls Try.prog 21 #[PT p, I k] W fun e w' => e = .returned (.tuple #[.agg (rowB 64 (bkF (readsD (sD V [] (-1) ((n' - k : Nat) : Int) (m0 + k)) k))), I 0]) ∧ DkH wc w' p (sD V [] (-1) ((n' - (k + 1) : Nat) : Int) (m0 + (k + 1))) b o) := Lib.hid fun W p b o k hk hW => hW.call fun L hL hh => by
    have := read_any hh k (by omega) (by omega) (show m0 + k < _ by omega)
    rw [hL, sD_read ⟨by omega, by rw [hVl]; omega⟩ (by omega), hDk k hk] at this
    exact this
  obtain ⟨h', q', b', hl', hq', hask⟩ := sD_ask hr (m := m0 + n') hVl
  have HO : Hid (∀ W p D b o, DkH wc W p D b o → Calls Try.prog 22 #[PT p] W fun e w' => e = .returned (I (D.ops : Nat)) ∧ DkH wc w' p D b o) := Lib.hid fun W p D b o hW => hW.look fun L hL hh => by
    have := ops_any hh
    rwa [hL] at this
  have HDe : Hid (∀ W p D b o, DkH wc W p D b o → Calls Try.prog 27 #[PT p] W fun e w' => e = .returned (.bool D.dark) ∧ DkH wc w' p D b o) := Lib.hid fun W p D b o hW => hW.look fun L hL hh => by
    have := dead_any hh
    rwa [hL] at this
  have HA8 : Hid (∀ W p b o, DkH wc W p (sD V [] (-1) 0 (m0 + n')) b o → Calls Try.prog 14 #[AV (reA a) kv, PT p] W fun e w' => e = .returned (.tuple #[.agg (rowB 64 (bkF zeroB)), I 8]) ∧ DkH wc w' p (sD V [] (-1) (-1) (m0 + n')) b o) := Lib.hid fun W p b o hW => hW.call fun L hL hh => by
    have := of_any hh (reA a) kv (hs.ex (ex_trans kc hW.ex)) hrb (show m0 + n' < _ by omega) (show 0 < _ by omega)
    rw [hL, sD_ask8 hr hVl] at this
    exact this
  have HA0 : Hid (∀ W p b o, DkH wc W p (sD V [] (-1) (-1) (m0 + n')) b o → Calls Try.prog 14 #[AV (reA a) kv, PT p] W fun e w' => e = .returned (.tuple #[.agg (rowB 64 (bkF b')), I 0]) ∧ DkH wc w' p (sD h' q' (-1) (-1) (m0 + n' + 1)) b o) := Lib.hid fun W p b o hW => hW.call fun L hL hh => by
    have := of_any hh (reA a) kv (hs.ex (ex_trans kc hW.ex)) hrb (show m0 + n' < _ by omega) (show 0 < _ by omega)
    rw [hL, hask] at this
    exact this
  have HAr : Hid (∀ W p b o, DkH wc W p (sD h' q' (-1) (-1) (m0 + n' + 1)) b o → Calls Try.prog 24 #[PT p, I n'] W fun e w' => e = .returned (I 0) ∧ DkH wc w' p (sD h' q' ((n' - 0 : Nat) : Int) (-1) (m0 + n' + 1 + 2 * 0)) b o) := Lib.hid fun W p b o hW => hW.call fun L hL hh => by
    have := arm_any hh n' (by omega)
    rw [hL, sD_arm _ _ _ _ _ (by omega)] at this
    exact this
  have HR2 : Hid (∀ W p b o (k : Nat) q, k < n' → DkH wc W p (sD h' q ((n' - k : Nat) : Int) (-1) (m0 + n' + 1 + 2 * k)) b o → Calls Try.prog 21 #[PT p, I k] W fun e w' => e = .returned (.tuple #[.agg (rowB 64 (bkF (readsD (sD h' q ((n' - k : Nat) : Int) (-1) (m0 + n' + 1 + 2 * k)) k))), I 0]) ∧ DkH wc w' p (sD h' q ((n' - k : Nat) : Int) (-1) (m0 + n' + 1 + 2 * k + 1)) b o) := Lib.hid fun W p b o k q hk hW => hW.call fun L hL hh => by
    have := read_any hh k (by omega) (by omega) (show m0 + n' + 1 + 2 * k < _ by omega)
    rw [hL, sD_read ⟨by omega, by rw [hl']; omega⟩ (by omega), down_m] at this
    exact this
  have HW2 : Hid (∀ W p b o (k : Nat) q, k < n' → q.length ≤ 1 + k → DkH wc W p (sD h' q ((n' - k : Nat) : Int) (-1) (m0 + n' + 1 + 2 * k + 1)) b o → Calls Try.prog 25 #[PT p, I k, .agg (rowB 64 (bkF (blockA (reA a).n)))] W fun e w' => e = .returned (I 0) ∧ DkH wc w' p (sD h' (q ++ [((k : Int), blockA (reA a).n)]) ((n' - (k + 1) : Nat) : Int) (-1) (m0 + n' + 1 + 2 * (k + 1))) b o) := Lib.hid fun W p b o k q hk hq hW => hW.call fun L hL hh => by
    have := write_any hh k (blockA (reA a).n) (by omega) (by omega) (show m0 + n' + 1 + 2 * k + 1 < _ by omega) (show q.length < _ by omega)
    rw [hL, sD_write ⟨by omega, by rw [hl']; omega⟩ (by omega) (by omega), down_m, hDk k hk] at this
    exact this
  have HBl : Hid (∀ W, Calls Try.prog 26 #[AV (reA a) kv] W (Post W (.agg (rowB 64 (bkF (blockA (reA a).n)))))) := Lib.hid fun W => block_any (reA a) kv W hkv
  have HL9 : Hid (∀ W p b o q, q.length ≤ 1 + n' → DkH wc W p (sD h' q ((n' - n' : Nat) : Int) (-1) (m0 + n' + 1 + 2 * n')) b o → Calls Try.prog 25 #[PT p, .int .i64 0, .agg (rowB 64 fun _ => 0)] W fun e w' => e = .returned (I 9) ∧ DkH wc w' p (oD h' q (m0 + n' + 1 + 2 * n')) b o) := Lib.hid fun W p b o q hq hW => by
    rw [Nat.sub_self] at hW
    refine hW.call fun L hL hh => ?_
    have := write_any hh 0 zeroB (by omega) (by omega) (show m0 + n' + 1 + 2 * n' < _ by omega) (show q.length < _ by omega)
    rw [hL, show ((0 : Nat) : Int) = 0 from rfl, sD_last (by rw [hl']; omega), zeroB_row] at this
    exact this
  have HS9 : Hid (∀ W p b o q M, M ≤ 1000 → DkH wc W p (oD h' q M) b o → Calls Try.prog 28 #[PT p] W fun e w' => e = .returned (I 9) ∧ DkH wc w' p (oD h' q M) b o) := Lib.hid fun W p b o q M hM hW => hW.call fun L hL hh => by
    have := sync_any hh (show M < _ by omega)
    rw [hL, oD_sync] at this
    exact this
  have HA9 : Hid (∀ W p b o q M, DkH wc W p (oD h' q M) b o → Calls Try.prog 24 #[PT p, .int .i64 1] W fun e w' => e = .returned (I 9) ∧ DkH wc w' p (oD h' q M) b o) := Lib.hid fun W p b o q M hW => hW.call fun L hL hh => by
    have := arm_any hh 1 (by omega)
    rw [hL, oD_arm] at this
    exact this
  have HF9 : Hid (∀ W p b o q M, DkH wc W p (oD h' q M) b o → Calls Try.prog 20 #[PT p, .int .i64 1] W fun e w' => e = .returned (I 9) ∧ DkH wc w' p (oD h' q M) b o) := Lib.hid fun W p b o q M hW => hW.call fun L hL hh => by
    have := fail_any hh 1 (by omega)
    rw [hL, oD_fail] at this
    exact this
  have HR9 : Hid (∀ W p b o q M, M ≤ 1000 → DkH wc W p (oD h' q M) b o → Calls Try.prog 21 #[PT p, .int .i64 0] W fun e w' => e = .returned (.tuple #[.agg (rowB 64 (bkF zeroB)), I 9]) ∧ DkH wc w' p (oD h' q M) b o) := Lib.hid fun W p b o q M hM hW => hW.call fun L hL hh => by
    have := read_any hh 0 (by omega) (by omega) (show M < _ by omega)
    rw [hL, oD_read] at this
    exact this
  have HC9 : Hid (∀ W p b o q M, DkH wc W p (oD h' q M) b o → Calls Try.prog 18 #[PT p, .slice none 0 0] W fun e w' => e = .returned (I 0) ∧ DkH wc w' p (sD (viewD (oD h' q M) []) [] (-1) (-1) M) b o) := Lib.hid fun W p b o q M hW => hW.call fun L hL hh => by
    have := crash_any hh (.slice none 0 0) [] (SlV1.nil _ _ _) (fun g hg => by cases hg)
    rw [hL, crash_sD] at this
    exact this
  have hEq : eqF (nineF V) (nineF V) 576 = true := eqF_same _ _
  unfold AV at HA8 HA0 HBl
  replace hask := Lib.hid hask
  replace hl' := Lib.hid hl'
  have Hwb := Lib.hid hwb
  unfold boxA at Hwb
  have tok1 : True := trivial
  have HM := Lib.hid h
  have HS := Lib.hid hs
  replace hm0 := Lib.hid hm0
  replace hV := Lib.hid hV
  replace hD1 := Lib.hid hD1
  replace hD0 := Lib.hid hD0
  replace hVl := Lib.hid hVl
  replace hB0 := Lib.hid hB0
  replace hr := Lib.hid hr
  replace hrb := Lib.hid hrb
  replace hk0 := Lib.hid hk0
  replace hj0 := Lib.hid hj0
  replace hDk := Lib.hid hDk
  clear hwb hwc h hs hu hlk
  unfold AV
  go_enter Try.func4, Try.ntmps4
  go_wp2_with (first | (go_at_call 9; rw [Hwb.out]; (with_reducible refine HW.out.mono ?_); rintro e w1 ⟨rfl, X, rfl⟩) | (go_at_call 17; (with_reducible refine (HA.out _ (by (try show Ex _ _); repeat (first | (with_reducible exact ex_refl _) | (with_reducible assumption) | (with_reducible refine ex_drewL ?_) | (with_reducible refine ex_appR ?_ _) | (with_reducible refine ex_wx ?_ _) | (with_reducible refine ex_drew ?_) | (with_reducible refine ex_alloc ?_ _)))).mono ?_); rintro e w2 ⟨p, rfl, h2⟩; replace h2 := Lib.hid h2) | (go_at_call 18; (with_reducible refine (HC.out _ _ h2.out).mono ?_); rintro e w3 ⟨rfl, h3⟩; obtain ⟨bx, b0, b1, f0, f1, bz, fx⟩ := box_cells (HB.out _ h3.ex); replace h3 := Lib.hid h3) | (go_at_call 19; (with_reducible refine (HV.out _ _ _ _ (by omega) (HT.out _ _ _ h3.out)).mono ?_); rintro e w4 ⟨rfl, k4⟩; have h4 := Lib.hid ((HT.out _ _ _ h3.out).grow k4)) | (go_at_call 20; (with_reducible refine (HF.out _ _ _ _ (DkH.of h4.out (ex_alloc (ex_refl _) _) (heap_alloc_new _ _) (Nat.le_refl _))).mono ?_); rintro e w5 ⟨rfl, h5⟩; replace h5 := Lib.hid h5))
  go_loopw [64] (fun i W => ∃ k : Nat, k ≤ n' ∧ i = I k ∧ Hid (DkH wc W p (sD V [] (-1) ((n' - k : Nat) : Int) (m0 + k)) w4.heap.size (.cells (rowB 576 (nineF V)) 48 (0, 0)))) (fun i _ => n' - (intOf i).toNat)
  case atStart => exact ⟨0, by omega, rfl, h5⟩
  case round =>
    obtain ⟨k, hk, rfl, hW⟩ := hrel
    by_cases hlt : k < n'
    · have hlt2 : (k : Int) < n' := by omega
      have k9 : (k : Int).tmod 9 = k := Int.tmod_eq_of_lt (by omega) (by omega)
      go_wp2_with (go_at_call 21; (with_reducible refine (HR1.out _ _ _ _ _ hlt hW.out).mono ?_); rintro e w6 ⟨rfl, h6⟩; replace h6 := Lib.hid h6)
      exact ⟨⟨k + 1, by omega, by go_num, Lib.hid (h6.out.grow (by (try show Ex _ _); repeat (first | (with_reducible exact ex_refl _) | (with_reducible assumption) | (with_reducible refine ex_drewL ?_) | (with_reducible refine ex_appR ?_ _) | (with_reducible refine ex_wx ?_ _) | (with_reducible refine ex_drew ?_) | (with_reducible refine ex_alloc ?_ _))))⟩, by simp [intOf]; omega⟩
    · have hkn : k = n' := by omega
      subst k
      rw [show ((n' - n' : Nat) : Int) = 0 by omega] at hW
      clear hlt
      replace h5 := trivial
      replace h4 := trivial
      replace h3 := trivial
      have HP0 : Hid (∀ W, DkO wc W p (sD V [] (-1) (-1) (m0 + n')) → Calls Try.prog 23 #[PT p] W (PostZ W [])) := Lib.hid fun W hW => pend_o hW
      have HX : Hid (∀ W, Ex wc W → cellsN W w.heap.size 0 4 = some #[I (reA a).kind, I (reA a).at', I (reA a).n, kv] ∧ w.heap.size < W.heap.size) := Lib.hid fun W k => ⟨(box_cells (HB2.out W k)).1, (box_cells (HB2.out W k)).2.2.2.2.2.1⟩
      obtain ⟨bc1, bz1⟩ := HX.out _ hW.out.ex
      clear bx b0 b1 f0 f1 bz fx
      go_wp2_with (first | (go_at_call 22; (with_reducible refine (HO.out _ _ _ _ _ hW.out).mono ?_); rintro e w6 ⟨rfl, h6⟩; replace h6 := Lib.hid h6; obtain ⟨bc2, bz2⟩ := HX.out _ h6.out.ex) | (go_at_call 14; (with_reducible refine (HA8.out _ _ _ _ h6.out).mono ?_); rintro e w7 ⟨rfl, h7⟩; replace h7 := Lib.hid h7) | (go_at_call 19; (with_reducible refine (HV.out _ _ _ _ (by omega) (h7.out.grow (by (try show Ex _ _); repeat (first | (with_reducible exact ex_refl _) | (with_reducible assumption) | (with_reducible refine ex_drewL ?_) | (with_reducible refine ex_appR ?_ _) | (with_reducible refine ex_wx ?_ _) | (with_reducible refine ex_drew ?_) | (with_reducible refine ex_alloc ?_ _)))).o).mono ?_); rintro e w8 ⟨rfl, k8⟩; have h8 := Lib.hid ((h7.out.grow (by (try show Ex _ _); repeat (first | (with_reducible exact ex_refl _) | (with_reducible assumption) | (with_reducible refine ex_drewL ?_) | (with_reducible refine ex_appR ?_ _) | (with_reducible refine ex_wx ?_ _) | (with_reducible refine ex_drew ?_) | (with_reducible refine ex_alloc ?_ _)))).grow k8); obtain ⟨n8, f8⟩ := block_cells (n := 576) h8.out.bl (by simp); have z8 := (Array.getElem?_eq_some_iff.1 h8.out.bl).1) | (go_at_call 22; (with_reducible refine (HO.out _ _ _ _ _ (h8.out.grow (by (try show Ex _ _); repeat (first | (with_reducible exact ex_refl _) | (with_reducible assumption) | (with_reducible refine ex_drewL ?_) | (with_reducible refine ex_appR ?_ _) | (with_reducible refine ex_wx ?_ _) | (with_reducible refine ex_drew ?_) | (with_reducible refine ex_alloc ?_ _))))).mono ?_); rintro e w9 ⟨rfl, h9⟩; replace h9 := Lib.hid h9) | (go_at_call 23; (with_reducible refine (HP0.out _ h9.out.o).mono ?_); rintro e w10 ⟨v5, rfl, hO5, k5⟩; obtain ⟨a5, c5, rfl, _⟩ := own_form hO5; clear hO5; have h10 := Lib.hid (h9.out.grow k5); clear h9; obtain ⟨bc3, bz3⟩ := HX.out _ h10.out.ex) | (go_at_call 14; (with_reducible refine (HA0.out _ _ _ _ h10.out).mono ?_); rintro e w11 ⟨rfl, h11⟩; replace h11 := Lib.hid h11) | (go_at_call 24; (with_reducible refine (HAr.out _ _ _ _ (h11.out.grow (by (try show Ex _ _); repeat (first | (with_reducible exact ex_refl _) | (with_reducible assumption) | (with_reducible refine ex_drewL ?_) | (with_reducible refine ex_appR ?_ _) | (with_reducible refine ex_wx ?_ _) | (with_reducible refine ex_drew ?_) | (with_reducible refine ex_alloc ?_ _))))).mono ?_); rintro e w12 ⟨rfl, h12⟩; replace h12 := Lib.hid h12))
      clear n8 f8 z8 bc1 bz1 bc2 bz2 bc3 bz3
      go_loopw [128] (fun i W => ∃ (k : Nat) (q : List Pt), k ≤ n' ∧ q.length ≤ 1 + k ∧ i = I k ∧ Hid (DkH wc W p (sD h' q ((n' - k : Nat) : Int) (-1) (m0 + n' + 1 + 2 * k)) w4.heap.size (.cells (rowB 576 (nineF V)) 48 (0, 0)))) (fun i _ => n' - (intOf i).toNat)
      case atStart => exact ⟨0, q', by omega, by omega, rfl, h12⟩
      case round =>
        obtain ⟨k, q, hk, hq, rfl, hW⟩ := hrel
        by_cases hlt : k < n'
        · have hlt2 : (k : Int) < n' := by omega
          have k9 : (k : Int).tmod 9 = k := Int.tmod_eq_of_lt (by omega) (by omega)
          go_wp2_with (first | (go_at_call 21; (with_reducible refine (HR2.out _ _ _ _ _ _ hlt hW.out).mono ?_); rintro e w13 ⟨rfl, h13⟩; replace h13 := Lib.hid h13; obtain ⟨bc4, bz4⟩ := HX.out _ h13.out.ex) | (go_at_call 26; (with_reducible refine (HBl.out _).mono ?_); rintro e w14 ⟨rfl, k14⟩; have h14 := Lib.hid ((h13.out.grow (by (try show Ex _ _); repeat (first | (with_reducible exact ex_refl _) | (with_reducible assumption) | (with_reducible refine ex_drewL ?_) | (with_reducible refine ex_appR ?_ _) | (with_reducible refine ex_wx ?_ _) | (with_reducible refine ex_drew ?_) | (with_reducible refine ex_alloc ?_ _)))).grow k14)) | (go_at_call 25; (with_reducible refine (HW2.out _ _ _ _ _ _ hlt hq h14.out).mono ?_); rintro e w15 ⟨rfl, h15⟩; replace h15 := Lib.hid h15))
          exact ⟨⟨k + 1, _, by omega, by rw [List.length_append, List.length_singleton]; omega, by go_num, h15⟩, by simp [intOf]; omega⟩
        · have hkn : k = n' := by omega
          subst k
          clear hlt
          have tokD : True := trivial
          go_wp2_with (first | (go_at_call 25; (with_reducible refine (HL9.out _ _ _ _ _ hq hW.out).mono ?_); rintro e w16 ⟨rfl, h16⟩; replace h16 := Lib.hid h16) | (go_at_call 27; have _t := tokD; (with_reducible refine (HDe.out _ _ _ _ _ h16.out).mono ?_); clear tokD; rintro e w17 ⟨rfl, h17⟩; replace h17 := Lib.hid h17) | (go_at_call 28; (with_reducible refine (HS9.out _ _ _ _ _ _ (by omega) h17.out).mono ?_); rintro e w18 ⟨rfl, h18⟩; replace h18 := Lib.hid h18) | (go_at_call 24; (with_reducible refine (HA9.out _ _ _ _ _ _ h18.out).mono ?_); rintro e w19 ⟨rfl, h19⟩; replace h19 := Lib.hid h19) | (go_at_call 20; (with_reducible refine (HF9.out _ _ _ _ _ _ h19.out).mono ?_); rintro e w20 ⟨rfl, h20⟩; replace h20 := Lib.hid h20) | (go_at_call 21; (with_reducible refine (HR9.out _ _ _ _ _ _ (by omega) h20.out).mono ?_); rintro e w21 ⟨rfl, h21⟩; replace h21 := Lib.hid h21) | (go_at_call 18; (with_reducible refine (HC9.out _ _ _ _ _ _ h21.out).mono ?_); rintro e w22 ⟨rfl, h22⟩; replace h22 := Lib.hid h22) | (go_at_call 27; (with_reducible refine (HDe.out _ _ _ _ _ h22.out).mono ?_); rintro e w23 ⟨rfl, h23⟩; replace h23 := Lib.hid h23))
          go_ret
          exact post_mk' rfl (ex_trans kc h23.out.ex)
end Go.Proofs.Ytdohohafdplkiaa
