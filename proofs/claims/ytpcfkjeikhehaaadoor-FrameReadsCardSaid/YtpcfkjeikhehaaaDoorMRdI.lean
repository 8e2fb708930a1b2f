import Derived.Test.YtpcfkjeikhehaaaDoorMRdH
import Derived.Test.YtpcfkjeikhehaaaDoorMFrR

/- The frame's read. -/
set_option linter.unusedSimpArgs false
set_option linter.unusedVariables false
set_option maxRecDepth 20000
namespace Go.Proofs.YtpcfkjeikhehaaaDoor
open Go.RowKit
theorem octread_any (a : Option Addr) (n c : Nat) (w : World) :
    Calls Tryd.prog 69 #[.slice a n c] w fun x w' => x = .returned (PT w.heap.size) ∧ w' = w.alloc (.cells #[.slice a n c, I 0, I 0] 122) := by
  go_enter Tryd.func69, Tryd.ntmps69
  go_wp2
  go_ret
  exact ⟨rfl, rfl⟩
theorem shr4 (b : UInt8) : bn b / 16 = ((b.toNat / 16 : Nat) : Int) := by unfold bn; omega
theorem and15 (b : UInt8) : bits BinOp.and IntKind.u8 (bn b) 15 = ((b.toNat % 16 : Nat) : Int) := by
  have h : ∀ y : Fin 256, bits BinOp.and IntKind.u8 ((y.val : Nat) : Int) 15 = ((y.val % 16 : Nat) : Int) := by decide +kernel
  exact h ⟨b.toNat, b.toNat_lt⟩
def hasF (i : Nat) (k : Int) : Bool := if i = 0 then hasO k else if i = 1 then hasP k else if i = 2 then hasC k else if i = 3 then hasE k else if i = 4 then hasM k else hasD k
theorem read_start {w W0 : World} {v : Value} {l : List UInt8} (hs : SlT w v l) (hl : l.length ≤ 1000000)
    (h0 : W0 = ((w.alloc (.cells #[.int .i64 0, .int .i64 0, .int .i64 0, .int .u64 0, .int .u64 0, .int .u64 0, .slice none 0 0, .int .u64 0, .bool false, .slice none 0 0, .slice none 0 0] 41)).alloc (.cells #[v, I 0, I 0] 122)).alloc (.cells #[PT (w.heap.size + 1), v, .bool false] 107)) :
    RdM w W0 (w.heap.size + 3) (w.heap.size + 2) (w.heap.size + 1) w.heap.size (NIL, NIL, NIL) v l ⟨0, 0, false⟩ noM := by
  have hk : Ex w W0 := by rw [h0]; exact ex_alloc (ex_alloc (ex_alloc (ex_refl _) _) _) _
  have hz : W0.heap.size = w.heap.size + 3 := by rw [h0]; simp [go_sem]
  refine ⟨hk, by omega, by omega, by omega, by omega, by omega, by omega, by omega, hs, hl, Nat.zero_le _, ?_, ?_, ?_, ownE_nil _ _, ownI_nil _ _, ownl_nil _ _⟩
  · rw [h0, alloc_at (by simp [go_sem])]
  · rw [h0, ex_of_alloc _ _ _ (by simp [go_sem]), alloc_at (by simp [go_sem])]; rfl
  · rw [h0, ex_of_alloc _ _ _ (by simp [go_sem]), ex_of_alloc _ _ _ (by simp [go_sem]), alloc_at rfl]; rfl
structure Stg (i : Nat) (xs : Value × Value × Value) (m : Ms) : Prop where
  e3 : i ≤ 3 → xs.1 = NIL ∧ m.es = []
  e4 : i ≤ 4 → hasM m.kd = true → xs.1 = NIL ∧ m.es = []
  m4 : i ≤ 4 → xs.2.1 = NIL ∧ m.mb = []
  d5 : i ≤ 5 → xs.2.2 = NIL ∧ m.da = []
theorem Stg.next {i : Nat} {xs : Value × Value × Value} {m : Ms} (h : Stg i xs m) : Stg (i + 1) xs m :=
  ⟨fun k => h.e3 (by omega), fun k => h.e4 (by omega), fun k => h.m4 (by omega), fun k => h.d5 (by omega)⟩
theorem fieldP_eq (l : List UInt8) (i : Nat) (hi : i < 6) (x : Rs × Ms) : fieldP l i x = if hasF i x.2.kd then (if i = 0 then voiceP l x.1 x.2 else if i = 1 then placeP l x.1 x.2 else if i = 2 then agreedP l x.1 x.2 else if i = 3 then entriesP l x.1 x.2 else if i = 4 then membersP l x.1 x.2 else dataP l x.1 x.2) else x := by
  have h6 : i = 0 ∨ i = 1 ∨ i = 2 ∨ i = 3 ∨ i = 4 ∨ i = 5 := by omega
  rcases h6 with rfl | rfl | rfl | rfl | rfl | rfl <;> simp [fieldP, hasF]
theorem hasEM {k : Int} (h : hasF 3 k = true) : ¬ hasM k = true := by
  simp [hasF, hasE, hasM] at h ⊢; omega
theorem hasB_F {k : Int} (h1 : 1 ≤ k) (h5 : k ≤ 5) : ∀ i, i < 6 → hasB k ((2 ^ i : Nat) : Int) = hasF i k := by
  have h6 : k = 1 ∨ k = 2 ∨ k = 3 ∨ k = 4 ∨ k = 5 := by omega
  rcases h6 with rfl | rfl | rfl | rfl | rfl <;> decide
theorem RdM.self {A w : World} {Z p q bm : Nat} {xs : Value × Value × Value} {v : Value} {l : List UInt8} {s : Rs} {m : Ms} (h : RdM A w Z p q bm xs v l s m) :
    RdM A (w.setCells bm 0 [I m.kd, I m.fr, I m.to, L m.tm, L m.pi, L m.pt, xs.1, L m.cm, .bool m.ok, xs.2.1, xs.2.2]) Z p q bm xs v l s m := by
  have k : Keep Z w (w.setCells bm 0 [I m.kd, I m.fr, I m.to, L m.tm, L m.pi, L m.pt, xs.1, L m.cm, .bool m.ok, xs.2.1, xs.2.2]) := Keep.sets (Keep.refl _ _) h.hb.2 _
  have hb := setCells_block bm 41 (0, 0) [I m.kd, I m.fr, I m.to, L m.tm, L m.pi, L m.pt, xs.1, L m.cm, .bool m.ok, xs.2.1, xs.2.2] 0 _ _ h.ms.hp
  rw [splice_all _ _ rfl] at hb
  exact { h with ex := ex_setCells h.ex h.hb.1 _ _, hz := by rw [setCells_size]; exact h.hz, bp := (setCells_heap _ _ _ _ _ h.pb).trans h.bp, bq := (setCells_heap _ _ _ _ _ h.qb).trans h.bq,
                 ms := ⟨hb, h.ms.es.keep k, own_keep h.ms.mb k, own_keep h.ms.da k⟩ }
theorem RdM.mso {A w : World} {Z p q bm : Nat} {xs : Value × Value × Value} {v : Value} {l : List UInt8} {s : Rs} {m : Ms} (h : RdM A w Z p q bm xs v l s m) :
    MsO w A.heap.size (.agg #[I m.kd, I m.fr, I m.to, L m.tm, L m.pi, L m.pt, xs.1, L m.cm, .bool m.ok, xs.2.1, xs.2.2]) m :=
  have hz := Nat.le_trans h.hb.1 (Nat.le_of_lt h.hb.2)
  ⟨_, _, _, rfl, h.ms.es.low hz, owns_low h.ms.mb hz, owns_low h.ms.da hz⟩
@[go_sem] theorem at_takes (cs : Array Value) (i : Int) (w : World) : (Instr.index 109 (.agg cs) (.int .i64 i)).run Tryd.prog w = if 0 ≤ i ∧ i < (6 : Nat) then (match cs[i.toNat]? with | some v => .ok v w | none => idxRaw Tryd.prog 109 (.agg cs) (.int .i64 i) w) else idxRaw Tryd.prog 109 (.agg cs) (.int .i64 i) w := index_one Tryd.underlying109 Tryd.underlying108 rfl (by kernel_rfl) cs i w
set_option maxHeartbeats 4000000 in
theorem read_any (l : List UInt8) (v : Value) (w : World) (G : FGlob w) (hs : SlT w v l) (hl : l.length ≤ 1000000) :
    Calls Tryd.prog 49 #[v] w fun x w' => ∃ u, x = .returned u ∧ MsO w' w.heap.size u (readP l) ∧ Ex w w' := by
  obtain ⟨sa, sc, rfl, _⟩ := id hs.out
  have HS := Lib.hid hs
  have H1 := Lib.hid (fun W (hW : RdM w W (w.heap.size + 3) (w.heap.size + 2) (w.heap.size + 1) w.heap.size (NIL, NIL, NIL) (.slice sa l.length sc) l ⟨0, 0, false⟩ noM) => u8_any hW)
  have HR : Hid (readP l = if (u8P l ⟨0, 0, false⟩).1.toNat < 1 ∨ 5 < (u8P l ⟨0, 0, false⟩).1.toNat then { noM with kd := (u8P l ⟨0, 0, false⟩).1.toNat } else (fieldsP l 6 (headP l)).2) := Lib.hid rfl
  have HH : Hid (headP l = ((numP l (u8P l (u8P l ⟨0, 0, false⟩).2).2).2, { noM with kd := (u8P l ⟨0, 0, false⟩).1.toNat, fr := ((u8P l (u8P l ⟨0, 0, false⟩).2).1.toNat / 16 : Nat), to := ((u8P l (u8P l ⟨0, 0, false⟩).2).1.toNat % 16 : Nat), tm := UInt64.ofNat (numP l (u8P l (u8P l ⟨0, 0, false⟩).2).2).1 })) := Lib.hid rfl
  clear hs
  generalize readP l = rp at *
  generalize u8P l ⟨0, 0, false⟩ = r1 at *
  obtain ⟨b1, s1⟩ := r1
  simp only at H1 HR HH
  have hw1 : wrap64 (bn b1) = bn b1 := by have := b1.toNat_lt; unfold bn wrap64; omega
  by_cases hb : b1.toNat < 1 ∨ 5 < b1.toNat
  · have hrp : rp = { noM with kd := b1.toNat } := by rw [HR.out, if_pos hb]
    clear HR HH
    have hbn : bn b1 < 1 ∨ (¬ bn b1 < 1 ∧ 5 < bn b1) := by unfold bn; omega
    clear hb
    rcases hbn with h1 | ⟨h1, h2⟩
    all_goals
      go_enter Tryd.func49, Tryd.ntmps49
      go_wp2_with (first | (go_at_call 69; (with_reducible refine (octread_any _ _ _ _).mono ?_); rintro e w2 ⟨rfl, rfl⟩) | (go_at_call 70; (with_reducible refine (H1.out _ (read_start HS.out hl rfl)).mono ?_); rintro e w3 ⟨rfl, H2, zz2⟩; obtain ⟨⟨c0, c1, c2, c3, c4, c5, c6, c7, c8, c9, c10⟩, cf⟩ := H2.ms.cells; have hbz := H2.bm_lt; have H3 := H2.setB (H2.ms.setKd H2.hb.2 (bn b1)); clear H2; obtain ⟨n4, nf4⟩ := block_cells (n := 11) H3.ms.hp rfl; (simp only [noM] at n4 H3); replace H3 := Lib.hid H3))
      have H5 := H3.out.self
      have n5 := (block_cells (n := 11) H5.ms.hp rfl).1
      subst hrp
      exact ret_row Tryd.results49 Tryd.underlying41 rfl info_msg rfl n5 rfl ⟨_, rfl, H5.mso, H5.ex⟩
  · have hrp : rp = (fieldsP l 6 (headP l)).2 := by rw [HR.out, if_neg hb]
    have hkd : 1 ≤ bn b1 ∧ bn b1 ≤ 5 := by unfold bn; omega
    have h1 : ¬ bn b1 < 1 := by omega
    have h2 : ¬ 5 < bn b1 := by omega
    have HU := Lib.hid (fun W m' (hW : RdM w W (w.heap.size + 3) (w.heap.size + 2) (w.heap.size + 1) w.heap.size (NIL, NIL, NIL) (.slice sa l.length sc) l s1 m') => u8_any hW)
    have HN := Lib.hid (fun W m' (hW : RdM w W (w.heap.size + 3) (w.heap.size + 2) (w.heap.size + 1) w.heap.size (NIL, NIL, NIL) (.slice sa l.length sc) l (u8P l s1).2 m') => number_any hW)
    have hx := L_nat _ (num_lt l (u8P l s1).2)
    have HK := Lib.hid hkd
    rw [HH.out] at hrp
    clear HR HH hb
    generalize numP l (u8P l s1).2 = r3 at *
    generalize u8P l s1 = r2 at *
    obtain ⟨b2, s2⟩ := r2
    obtain ⟨x3, s3⟩ := r3
    simp only at HU HN hx hrp
    rw [hx] at HN
    generalize UInt64.ofNat x3 = y3 at *
    clear hx
    have hq1 := shr4 b2
    have hq2 := and15 b2
    have hq3 : bn b2 / 16 ≤ 15 := by have := b2.toNat_lt; unfold bn; omega
    go_enter Tryd.func49, Tryd.ntmps49
    go_wp2_with (first | (go_at_call 69; (with_reducible refine (octread_any _ _ _ _).mono ?_); rintro e w2 ⟨rfl, rfl⟩) | (go_at_call 70; (with_reducible refine (H1.out _ (read_start HS.out hl rfl)).mono ?_); rintro e w3 ⟨rfl, H2, zz2⟩; obtain ⟨⟨c0, c1, c2, c3, c4, c5, c6, c7, c8, c9, c10⟩, cf⟩ := H2.ms.cells; have hbz := H2.bm_lt; have H3 := H2.setB (H2.ms.setKd H2.hb.2 (bn b1)); clear H2; obtain ⟨_, ⟨p0, p1, p2, pf⟩, hqz, hpz⟩ := H3.cells; replace H3 := Lib.hid H3) | (go_at_call 70; (with_reducible refine (HU.out _ _ H3.out).mono ?_); rintro e w5 ⟨rfl, H4, zz4⟩; obtain ⟨⟨d0, d1, d2, d3, d4, d5, d6, d7, d8, d9, d10⟩, df⟩ := H4.ms.cells; have hbz4 := H4.bm_lt; have H5 := H4.setB (H4.ms.setFr H4.hb.2 ((b2.toNat : Int) / 16)); have H6 := H5.setB (H5.ms.setTo H5.hb.2 ((b2.toNat : Int) % 16)); clear H4 H5; obtain ⟨_, ⟨q0, q1, q2, qf⟩, tqz, tpz⟩ := H6.cells; replace H6 := Lib.hid H6) | (go_at_call 71; (with_reducible refine (HN.out _ _ H6.out).mono ?_); rintro e w7 ⟨rfl, H7, zz7⟩; obtain ⟨⟨e0, e1, e2, e3, e4, e5, e6, e7, e8, e9, e10⟩, ef⟩ := H7.ms.cells; have hbz7 := H7.bm_lt; have H8 := H7.setB (H7.ms.setTm H7.hb.2 y3); clear H7; replace H8 := Lib.hid H8))
    obtain ⟨x0, hx0⟩ : ∃ x0 : Rs × Ms, x0 = (s3, ⟨bn b1, (b2.toNat : Int) / 16, (b2.toNat : Int) % 16, y3, 0, 0, [], 0, false, [], []⟩) := ⟨_, rfl⟩
    have hrp2 : Hid (rp = (fieldsP l 6 x0).2) := Lib.hid (by rw [hrp, hx0]; rfl)
    have hst : Hid (Stg 0 (NIL, NIL, NIL) x0.2) := Lib.hid (by rw [hx0]; exact ⟨fun _ => ⟨rfl, rfl⟩, fun _ _ => ⟨rfl, rfl⟩, fun _ => ⟨rfl, rfl⟩, fun _ => ⟨rfl, rfl⟩⟩)
    have H9 : Hid (RdM w (w7.setCell ⟨w.heap.size, 3, none⟩ (L y3)) (w.heap.size + 3) (w.heap.size + 2) (w.heap.size + 1) w.heap.size (NIL, NIL, NIL) (.slice sa l.length sc) l x0.1 x0.2) := Lib.hid (by rw [hx0]; exact H8.out)
    have hk0 : Hid (x0.2.kd = bn b1) := Lib.hid (by rw [hx0])
    clear hx0 hrp H8 H6 H3
    go_loopw [57] (fun i W => ∃ (k : Nat) (xs : Value × Value × Value) (s : Rs) (m : Ms), k ≤ 6 ∧ i = I k ∧ Hid (RdM w W (w.heap.size + 3) (w.heap.size + 2) (w.heap.size + 1) w.heap.size xs (.slice sa l.length sc) l s m) ∧ Hid ((s, m) = fieldsP l k x0) ∧ Hid (Stg k xs m) ∧ Hid (m.kd = bn b1)) (fun i _ => 6 - (intOf i).toNat)
    case atStart => exact ⟨0, _, _, _, by omega, rfl, H9, Lib.hid rfl, hst, hk0⟩
    case round =>
      obtain ⟨k, xs, s, m, hk, rfl, H, HE, HST, HKD⟩ := hrel
      clear H9 hst hk0 c0 c1 c2 c3 c4 c5 c6 c7 c8 c9 c10 cf d0 d1 d2 d3 d4 d5 d6 d7 d8 d9 d10 df e0 e1 e2 e3 e4 e5 e6 e7 e8 e9 e10 ef H1 HU HN p0 p1 p2 pf q0 q1 q2 qf hq1 hq2 hq3 h1 h2
      by_cases hlt : k < 6
      · have h6 : k = 0 ∨ k = 1 ∨ k = 2 ∨ k = 3 ∨ k = 4 ∨ k = 5 := by omega
        obtain ⟨⟨c0, c1, c2, c3, c4, c5, c6, c7, c8, c9, c10⟩, cf⟩ := H.out.ms.cells
        rw [HKD.out] at c0
        have hbz := H.out.bm_lt
        have HG := Lib.hid (fun W (kx : Ex wr W) b hb => has_any (bn b1) ((2 ^ k : Nat) : Int) b W (G.ex (ex_trans H.out.ex kx)) HK.out.1 HK.out.2 hb)
        have HB := Lib.hid (hasB_F HK.out.1 HK.out.2 k hlt)
        have HFP := Lib.hid (fieldP_eq l k hlt (s, m))
        simp only at HFP
        rw [HKD.out] at HFP
        rcases h6 with rfl | rfl | rfl | rfl | rfl | rfl
        ·
          simp only [Nat.reducePow, Int.cast_ofNat_Int] at HG HB HFP
          have HFP := Lib.hid HFP
          cases hbF : hasF 0 (bn b1) with
          | true =>
            rw [hbF] at HB HFP
            have HG2 := Lib.hid (fun W (kx : Ex wr W) => HG.out W kx true HB.out)
            clear HG HB
            skip
            have HC := Lib.hid (fun W (kx : Ex wr W) => voice_any (H.out.grow kx))
            go_wp2
            refine wp_region_fork (wr) (.look 0 (.look 1 (.look 2 (.look 3 (.eff 4 .done))))) (by (try show Ex _ _); repeat (first | (with_reducible exact ex_refl _) | (with_reducible assumption) | (with_reducible refine ex_drewL ?_) | (with_reducible refine ex_appR ?_ _) | (with_reducible refine ex_wx ?_ _) | (with_reducible refine ex_drew ?_) | (with_reducible refine ex_alloc ?_ _))) (by kernel_rfl) (by kernel_rfl) (fun _ _ d _ _ h => by cases d <;> exact h) ?_
            simp only [Fk.ops, nth]
            repeat (first | ((with_reducible refine wpFork_look ?_); go_big_quiet_step (fail); (try (with_reducible refine wpQuiet_nil ?_))) | (with_reducible refine wpFork_eff ?_) | ((with_reducible refine effT_F ?_ ?_); (focus rfl); go_simp) | ((with_reducible refine effT_T ?_ ?_); (focus rfl); (try dsimp only); go_wp2_with ((go_at_call 55; (with_reducible refine (HG2.out _ (by (try show Ex _ _); repeat (first | (with_reducible exact ex_refl _) | (with_reducible assumption) | (with_reducible refine ex_drewL ?_) | (with_reducible refine ex_appR ?_ _) | (with_reducible refine ex_wx ?_ _) | (with_reducible refine ex_drew ?_) | (with_reducible refine ex_alloc ?_ _)))).mono ?_); rintro e w4 ⟨rfl, X4, rfl⟩)); refine mixQ_mk (by (try show Ex _ _); repeat (first | (with_reducible exact ex_refl _) | (with_reducible assumption) | (with_reducible refine ex_drewL ?_) | (with_reducible refine ex_appR ?_ _) | (with_reducible refine ex_wx ?_ _) | (with_reducible refine ex_drew ?_) | (with_reducible refine ex_alloc ?_ _))) ?_))
            all_goals (with_reducible refine wpFork_nil ?_)
            all_goals
              go_wp2_with (go_at_call 72; (with_reducible refine (HC.out _ (by (try show Ex _ _); repeat (first | (with_reducible exact ex_refl _) | (with_reducible assumption) | (with_reducible refine ex_drewL ?_) | (with_reducible refine ex_appR ?_ _) | (with_reducible refine ex_wx ?_ _) | (with_reducible refine ex_drew ?_) | (with_reducible refine ex_alloc ?_ _)))).mono ?_); rintro e w5 ⟨rfl, H4, _⟩)
              refine ⟨⟨0 + 1, _, _, _, by omega, by go_num, Lib.hid H4, Lib.hid (by rw [fieldsP, ← HE.out, HFP.out]; rfl), Lib.hid ⟨HST.out.next.e3, HST.out.next.e4, HST.out.next.m4, HST.out.next.d5⟩, Lib.hid HKD.out⟩, by simp [intOf]⟩
          | false =>
            rw [hbF] at HB HFP
            have HG2 := Lib.hid (fun W (kx : Ex wr W) => HG.out W kx false HB.out)
            clear HG HB
            go_wp2
            refine wp_region_fork (wr) (.look 0 (.look 1 (.look 2 (.look 3 (.eff 4 .done))))) (by (try show Ex _ _); repeat (first | (with_reducible exact ex_refl _) | (with_reducible assumption) | (with_reducible refine ex_drewL ?_) | (with_reducible refine ex_appR ?_ _) | (with_reducible refine ex_wx ?_ _) | (with_reducible refine ex_drew ?_) | (with_reducible refine ex_alloc ?_ _))) (by kernel_rfl) (by kernel_rfl) (fun _ _ d _ _ h => by cases d <;> exact h) ?_
            simp only [Fk.ops, nth]
            repeat (first | ((with_reducible refine wpFork_look ?_); go_big_quiet_step (fail); (try (with_reducible refine wpQuiet_nil ?_))) | (with_reducible refine wpFork_eff ?_) | ((with_reducible refine effT_F ?_ ?_); (focus rfl); go_simp) | ((with_reducible refine effT_T ?_ ?_); (focus rfl); (try dsimp only); go_wp2_with ((go_at_call 55; (with_reducible refine (HG2.out _ (by (try show Ex _ _); repeat (first | (with_reducible exact ex_refl _) | (with_reducible assumption) | (with_reducible refine ex_drewL ?_) | (with_reducible refine ex_appR ?_ _) | (with_reducible refine ex_wx ?_ _) | (with_reducible refine ex_drew ?_) | (with_reducible refine ex_alloc ?_ _)))).mono ?_); rintro e w4 ⟨rfl, X4, rfl⟩)); refine mixQ_mk (by (try show Ex _ _); repeat (first | (with_reducible exact ex_refl _) | (with_reducible assumption) | (with_reducible refine ex_drewL ?_) | (with_reducible refine ex_appR ?_ _) | (with_reducible refine ex_wx ?_ _) | (with_reducible refine ex_drew ?_) | (with_reducible refine ex_alloc ?_ _))) ?_))
            all_goals (with_reducible refine wpFork_nil ?_)
            all_goals
              go_wp2
              refine ⟨⟨0 + 1, _, _, _, by omega, by go_num, Lib.hid (H.out.grow (by (try show Ex _ _); repeat (first | (with_reducible exact ex_refl _) | (with_reducible assumption) | (with_reducible refine ex_drewL ?_) | (with_reducible refine ex_appR ?_ _) | (with_reducible refine ex_wx ?_ _) | (with_reducible refine ex_drew ?_) | (with_reducible refine ex_alloc ?_ _)))), Lib.hid (by rw [fieldsP, ← HE.out, HFP.out]; rfl), Lib.hid HST.out.next, Lib.hid HKD.out⟩, by simp [intOf]⟩
        ·
          simp only [Nat.reducePow, Int.cast_ofNat_Int] at HG HB HFP
          have HFP := Lib.hid HFP
          cases hbF : hasF 1 (bn b1) with
          | true =>
            rw [hbF] at HB HFP
            have HG2 := Lib.hid (fun W (kx : Ex wr W) => HG.out W kx true HB.out)
            clear HG HB
            skip
            have HC := Lib.hid (fun W (kx : Ex wr W) => place_any (H.out.grow kx))
            go_wp2
            refine wp_region_fork (wr) (.look 0 (.look 1 (.look 2 (.look 3 (.eff 4 .done))))) (by (try show Ex _ _); repeat (first | (with_reducible exact ex_refl _) | (with_reducible assumption) | (with_reducible refine ex_drewL ?_) | (with_reducible refine ex_appR ?_ _) | (with_reducible refine ex_wx ?_ _) | (with_reducible refine ex_drew ?_) | (with_reducible refine ex_alloc ?_ _))) (by kernel_rfl) (by kernel_rfl) (fun _ _ d _ _ h => by cases d <;> exact h) ?_
            simp only [Fk.ops, nth]
            repeat (first | ((with_reducible refine wpFork_look ?_); go_big_quiet_step (fail); (try (with_reducible refine wpQuiet_nil ?_))) | (with_reducible refine wpFork_eff ?_) | ((with_reducible refine effT_F ?_ ?_); (focus rfl); go_simp) | ((with_reducible refine effT_T ?_ ?_); (focus rfl); (try dsimp only); go_wp2_with ((go_at_call 55; (with_reducible refine (HG2.out _ (by (try show Ex _ _); repeat (first | (with_reducible exact ex_refl _) | (with_reducible assumption) | (with_reducible refine ex_drewL ?_) | (with_reducible refine ex_appR ?_ _) | (with_reducible refine ex_wx ?_ _) | (with_reducible refine ex_drew ?_) | (with_reducible refine ex_alloc ?_ _)))).mono ?_); rintro e w4 ⟨rfl, X4, rfl⟩)); refine mixQ_mk (by (try show Ex _ _); repeat (first | (with_reducible exact ex_refl _) | (with_reducible assumption) | (with_reducible refine ex_drewL ?_) | (with_reducible refine ex_appR ?_ _) | (with_reducible refine ex_wx ?_ _) | (with_reducible refine ex_drew ?_) | (with_reducible refine ex_alloc ?_ _))) ?_))
            all_goals (with_reducible refine wpFork_nil ?_)
            all_goals
              go_wp2_with (go_at_call 73; (with_reducible refine (HC.out _ (by (try show Ex _ _); repeat (first | (with_reducible exact ex_refl _) | (with_reducible assumption) | (with_reducible refine ex_drewL ?_) | (with_reducible refine ex_appR ?_ _) | (with_reducible refine ex_wx ?_ _) | (with_reducible refine ex_drew ?_) | (with_reducible refine ex_alloc ?_ _)))).mono ?_); rintro e w5 ⟨rfl, H4, _⟩)
              refine ⟨⟨1 + 1, _, _, _, by omega, by go_num, Lib.hid H4, Lib.hid (by rw [fieldsP, ← HE.out, HFP.out]; rfl), Lib.hid ⟨HST.out.next.e3, HST.out.next.e4, HST.out.next.m4, HST.out.next.d5⟩, Lib.hid HKD.out⟩, by simp [intOf]⟩
          | false =>
            rw [hbF] at HB HFP
            have HG2 := Lib.hid (fun W (kx : Ex wr W) => HG.out W kx false HB.out)
            clear HG HB
            go_wp2
            refine wp_region_fork (wr) (.look 0 (.look 1 (.look 2 (.look 3 (.eff 4 .done))))) (by (try show Ex _ _); repeat (first | (with_reducible exact ex_refl _) | (with_reducible assumption) | (with_reducible refine ex_drewL ?_) | (with_reducible refine ex_appR ?_ _) | (with_reducible refine ex_wx ?_ _) | (with_reducible refine ex_drew ?_) | (with_reducible refine ex_alloc ?_ _))) (by kernel_rfl) (by kernel_rfl) (fun _ _ d _ _ h => by cases d <;> exact h) ?_
            simp only [Fk.ops, nth]
            repeat (first | ((with_reducible refine wpFork_look ?_); go_big_quiet_step (fail); (try (with_reducible refine wpQuiet_nil ?_))) | (with_reducible refine wpFork_eff ?_) | ((with_reducible refine effT_F ?_ ?_); (focus rfl); go_simp) | ((with_reducible refine effT_T ?_ ?_); (focus rfl); (try dsimp only); go_wp2_with ((go_at_call 55; (with_reducible refine (HG2.out _ (by (try show Ex _ _); repeat (first | (with_reducible exact ex_refl _) | (with_reducible assumption) | (with_reducible refine ex_drewL ?_) | (with_reducible refine ex_appR ?_ _) | (with_reducible refine ex_wx ?_ _) | (with_reducible refine ex_drew ?_) | (with_reducible refine ex_alloc ?_ _)))).mono ?_); rintro e w4 ⟨rfl, X4, rfl⟩)); refine mixQ_mk (by (try show Ex _ _); repeat (first | (with_reducible exact ex_refl _) | (with_reducible assumption) | (with_reducible refine ex_drewL ?_) | (with_reducible refine ex_appR ?_ _) | (with_reducible refine ex_wx ?_ _) | (with_reducible refine ex_drew ?_) | (with_reducible refine ex_alloc ?_ _))) ?_))
            all_goals (with_reducible refine wpFork_nil ?_)
            all_goals
              go_wp2
              refine ⟨⟨1 + 1, _, _, _, by omega, by go_num, Lib.hid (H.out.grow (by (try show Ex _ _); repeat (first | (with_reducible exact ex_refl _) | (with_reducible assumption) | (with_reducible refine ex_drewL ?_) | (with_reducible refine ex_appR ?_ _) | (with_reducible refine ex_wx ?_ _) | (with_reducible refine ex_drew ?_) | (with_reducible refine ex_alloc ?_ _)))), Lib.hid (by rw [fieldsP, ← HE.out, HFP.out]; rfl), Lib.hid HST.out.next, Lib.hid HKD.out⟩, by simp [intOf]⟩
        ·
          simp only [Nat.reducePow, Int.cast_ofNat_Int] at HG HB HFP
          have HFP := Lib.hid HFP
          cases hbF : hasF 2 (bn b1) with
          | true =>
            rw [hbF] at HB HFP
            have HG2 := Lib.hid (fun W (kx : Ex wr W) => HG.out W kx true HB.out)
            clear HG HB
            skip
            have HC := Lib.hid (fun W (kx : Ex wr W) => agreed_any (H.out.grow kx))
            go_wp2
            refine wp_region_fork (wr) (.look 0 (.look 1 (.look 2 (.look 3 (.eff 4 .done))))) (by (try show Ex _ _); repeat (first | (with_reducible exact ex_refl _) | (with_reducible assumption) | (with_reducible refine ex_drewL ?_) | (with_reducible refine ex_appR ?_ _) | (with_reducible refine ex_wx ?_ _) | (with_reducible refine ex_drew ?_) | (with_reducible refine ex_alloc ?_ _))) (by kernel_rfl) (by kernel_rfl) (fun _ _ d _ _ h => by cases d <;> exact h) ?_
            simp only [Fk.ops, nth]
            repeat (first | ((with_reducible refine wpFork_look ?_); go_big_quiet_step (fail); (try (with_reducible refine wpQuiet_nil ?_))) | (with_reducible refine wpFork_eff ?_) | ((with_reducible refine effT_F ?_ ?_); (focus rfl); go_simp) | ((with_reducible refine effT_T ?_ ?_); (focus rfl); (try dsimp only); go_wp2_with ((go_at_call 55; (with_reducible refine (HG2.out _ (by (try show Ex _ _); repeat (first | (with_reducible exact ex_refl _) | (with_reducible assumption) | (with_reducible refine ex_drewL ?_) | (with_reducible refine ex_appR ?_ _) | (with_reducible refine ex_wx ?_ _) | (with_reducible refine ex_drew ?_) | (with_reducible refine ex_alloc ?_ _)))).mono ?_); rintro e w4 ⟨rfl, X4, rfl⟩)); refine mixQ_mk (by (try show Ex _ _); repeat (first | (with_reducible exact ex_refl _) | (with_reducible assumption) | (with_reducible refine ex_drewL ?_) | (with_reducible refine ex_appR ?_ _) | (with_reducible refine ex_wx ?_ _) | (with_reducible refine ex_drew ?_) | (with_reducible refine ex_alloc ?_ _))) ?_))
            all_goals (with_reducible refine wpFork_nil ?_)
            all_goals
              go_wp2_with (go_at_call 74; (with_reducible refine (HC.out _ (by (try show Ex _ _); repeat (first | (with_reducible exact ex_refl _) | (with_reducible assumption) | (with_reducible refine ex_drewL ?_) | (with_reducible refine ex_appR ?_ _) | (with_reducible refine ex_wx ?_ _) | (with_reducible refine ex_drew ?_) | (with_reducible refine ex_alloc ?_ _)))).mono ?_); rintro e w5 ⟨rfl, H4, _⟩)
              refine ⟨⟨2 + 1, _, _, _, by omega, by go_num, Lib.hid H4, Lib.hid (by rw [fieldsP, ← HE.out, HFP.out]; rfl), Lib.hid ⟨HST.out.next.e3, HST.out.next.e4, HST.out.next.m4, HST.out.next.d5⟩, Lib.hid HKD.out⟩, by simp [intOf]⟩
          | false =>
            rw [hbF] at HB HFP
            have HG2 := Lib.hid (fun W (kx : Ex wr W) => HG.out W kx false HB.out)
            clear HG HB
            go_wp2
            refine wp_region_fork (wr) (.look 0 (.look 1 (.look 2 (.look 3 (.eff 4 .done))))) (by (try show Ex _ _); repeat (first | (with_reducible exact ex_refl _) | (with_reducible assumption) | (with_reducible refine ex_drewL ?_) | (with_reducible refine ex_appR ?_ _) | (with_reducible refine ex_wx ?_ _) | (with_reducible refine ex_drew ?_) | (with_reducible refine ex_alloc ?_ _))) (by kernel_rfl) (by kernel_rfl) (fun _ _ d _ _ h => by cases d <;> exact h) ?_
            simp only [Fk.ops, nth]
            repeat (first | ((with_reducible refine wpFork_look ?_); go_big_quiet_step (fail); (try (with_reducible refine wpQuiet_nil ?_))) | (with_reducible refine wpFork_eff ?_) | ((with_reducible refine effT_F ?_ ?_); (focus rfl); go_simp) | ((with_reducible refine effT_T ?_ ?_); (focus rfl); (try dsimp only); go_wp2_with ((go_at_call 55; (with_reducible refine (HG2.out _ (by (try show Ex _ _); repeat (first | (with_reducible exact ex_refl _) | (with_reducible assumption) | (with_reducible refine ex_drewL ?_) | (with_reducible refine ex_appR ?_ _) | (with_reducible refine ex_wx ?_ _) | (with_reducible refine ex_drew ?_) | (with_reducible refine ex_alloc ?_ _)))).mono ?_); rintro e w4 ⟨rfl, X4, rfl⟩)); refine mixQ_mk (by (try show Ex _ _); repeat (first | (with_reducible exact ex_refl _) | (with_reducible assumption) | (with_reducible refine ex_drewL ?_) | (with_reducible refine ex_appR ?_ _) | (with_reducible refine ex_wx ?_ _) | (with_reducible refine ex_drew ?_) | (with_reducible refine ex_alloc ?_ _))) ?_))
            all_goals (with_reducible refine wpFork_nil ?_)
            all_goals
              go_wp2
              refine ⟨⟨2 + 1, _, _, _, by omega, by go_num, Lib.hid (H.out.grow (by (try show Ex _ _); repeat (first | (with_reducible exact ex_refl _) | (with_reducible assumption) | (with_reducible refine ex_drewL ?_) | (with_reducible refine ex_appR ?_ _) | (with_reducible refine ex_wx ?_ _) | (with_reducible refine ex_drew ?_) | (with_reducible refine ex_alloc ?_ _)))), Lib.hid (by rw [fieldsP, ← HE.out, HFP.out]; rfl), Lib.hid HST.out.next, Lib.hid HKD.out⟩, by simp [intOf]⟩
        ·
          simp only [Nat.reducePow, Int.cast_ofNat_Int] at HG HB HFP
          have HFP := Lib.hid HFP
          cases hbF : hasF 3 (bn b1) with
          | true =>
            rw [hbF] at HB HFP
            have HG2 := Lib.hid (fun W (kx : Ex wr W) => HG.out W kx true HB.out)
            clear HG HB
            (obtain ⟨xev, xmv, xdv⟩ := xs; obtain ⟨z1, z2⟩ := HST.out.m4 (by omega); obtain ⟨z3, z4⟩ := HST.out.d5 (by omega); obtain ⟨z5, z6⟩ := HST.out.e3 (by omega); simp only at z1 z3 z5; subst z1 z3 z5)
            have HC := Lib.hid (fun W (kx : Ex wr W) => entries_any (H.out.grow kx) z6 z4 z2)
            go_wp2
            refine wp_region_fork (wr) (.look 0 (.look 1 (.look 2 (.look 3 (.eff 4 .done))))) (by (try show Ex _ _); repeat (first | (with_reducible exact ex_refl _) | (with_reducible assumption) | (with_reducible refine ex_drewL ?_) | (with_reducible refine ex_appR ?_ _) | (with_reducible refine ex_wx ?_ _) | (with_reducible refine ex_drew ?_) | (with_reducible refine ex_alloc ?_ _))) (by kernel_rfl) (by kernel_rfl) (fun _ _ d _ _ h => by cases d <;> exact h) ?_
            simp only [Fk.ops, nth]
            repeat (first | ((with_reducible refine wpFork_look ?_); go_big_quiet_step (fail); (try (with_reducible refine wpQuiet_nil ?_))) | (with_reducible refine wpFork_eff ?_) | ((with_reducible refine effT_F ?_ ?_); (focus rfl); go_simp) | ((with_reducible refine effT_T ?_ ?_); (focus rfl); (try dsimp only); go_wp2_with ((go_at_call 55; (with_reducible refine (HG2.out _ (by (try show Ex _ _); repeat (first | (with_reducible exact ex_refl _) | (with_reducible assumption) | (with_reducible refine ex_drewL ?_) | (with_reducible refine ex_appR ?_ _) | (with_reducible refine ex_wx ?_ _) | (with_reducible refine ex_drew ?_) | (with_reducible refine ex_alloc ?_ _)))).mono ?_); rintro e w4 ⟨rfl, X4, rfl⟩)); refine mixQ_mk (by (try show Ex _ _); repeat (first | (with_reducible exact ex_refl _) | (with_reducible assumption) | (with_reducible refine ex_drewL ?_) | (with_reducible refine ex_appR ?_ _) | (with_reducible refine ex_wx ?_ _) | (with_reducible refine ex_drew ?_) | (with_reducible refine ex_alloc ?_ _))) ?_))
            all_goals (with_reducible refine wpFork_nil ?_)
            all_goals
              go_wp2_with (go_at_call 75; (with_reducible refine (HC.out _ (by (try show Ex _ _); repeat (first | (with_reducible exact ex_refl _) | (with_reducible assumption) | (with_reducible refine ex_drewL ?_) | (with_reducible refine ex_appR ?_ _) | (with_reducible refine ex_wx ?_ _) | (with_reducible refine ex_drew ?_) | (with_reducible refine ex_alloc ?_ _)))).mono ?_); rintro e w5 ⟨rfl, ⟨ev4, H4⟩, _⟩)
              refine ⟨⟨3 + 1, _, _, _, by omega, by go_num, Lib.hid H4, Lib.hid (by rw [fieldsP, ← HE.out, HFP.out]; rfl), Lib.hid ⟨fun h => absurd h (by omega), fun _ h => absurd h (hasEM (by rw [← hbF]; exact congrArg (hasF 3) HKD.out)), fun _ => ⟨rfl, z2⟩, fun _ => ⟨rfl, z4⟩⟩, Lib.hid HKD.out⟩, by simp [intOf]⟩
          | false =>
            rw [hbF] at HB HFP
            have HG2 := Lib.hid (fun W (kx : Ex wr W) => HG.out W kx false HB.out)
            clear HG HB
            go_wp2
            refine wp_region_fork (wr) (.look 0 (.look 1 (.look 2 (.look 3 (.eff 4 .done))))) (by (try show Ex _ _); repeat (first | (with_reducible exact ex_refl _) | (with_reducible assumption) | (with_reducible refine ex_drewL ?_) | (with_reducible refine ex_appR ?_ _) | (with_reducible refine ex_wx ?_ _) | (with_reducible refine ex_drew ?_) | (with_reducible refine ex_alloc ?_ _))) (by kernel_rfl) (by kernel_rfl) (fun _ _ d _ _ h => by cases d <;> exact h) ?_
            simp only [Fk.ops, nth]
            repeat (first | ((with_reducible refine wpFork_look ?_); go_big_quiet_step (fail); (try (with_reducible refine wpQuiet_nil ?_))) | (with_reducible refine wpFork_eff ?_) | ((with_reducible refine effT_F ?_ ?_); (focus rfl); go_simp) | ((with_reducible refine effT_T ?_ ?_); (focus rfl); (try dsimp only); go_wp2_with ((go_at_call 55; (with_reducible refine (HG2.out _ (by (try show Ex _ _); repeat (first | (with_reducible exact ex_refl _) | (with_reducible assumption) | (with_reducible refine ex_drewL ?_) | (with_reducible refine ex_appR ?_ _) | (with_reducible refine ex_wx ?_ _) | (with_reducible refine ex_drew ?_) | (with_reducible refine ex_alloc ?_ _)))).mono ?_); rintro e w4 ⟨rfl, X4, rfl⟩)); refine mixQ_mk (by (try show Ex _ _); repeat (first | (with_reducible exact ex_refl _) | (with_reducible assumption) | (with_reducible refine ex_drewL ?_) | (with_reducible refine ex_appR ?_ _) | (with_reducible refine ex_wx ?_ _) | (with_reducible refine ex_drew ?_) | (with_reducible refine ex_alloc ?_ _))) ?_))
            all_goals (with_reducible refine wpFork_nil ?_)
            all_goals
              go_wp2
              refine ⟨⟨3 + 1, _, _, _, by omega, by go_num, Lib.hid (H.out.grow (by (try show Ex _ _); repeat (first | (with_reducible exact ex_refl _) | (with_reducible assumption) | (with_reducible refine ex_drewL ?_) | (with_reducible refine ex_appR ?_ _) | (with_reducible refine ex_wx ?_ _) | (with_reducible refine ex_drew ?_) | (with_reducible refine ex_alloc ?_ _)))), Lib.hid (by rw [fieldsP, ← HE.out, HFP.out]; rfl), Lib.hid HST.out.next, Lib.hid HKD.out⟩, by simp [intOf]⟩
        ·
          simp only [Nat.reducePow, Int.cast_ofNat_Int] at HG HB HFP
          have HFP := Lib.hid HFP
          cases hbF : hasF 4 (bn b1) with
          | true =>
            rw [hbF] at HB HFP
            have HG2 := Lib.hid (fun W (kx : Ex wr W) => HG.out W kx true HB.out)
            clear HG HB
            (obtain ⟨xev, xmv, xdv⟩ := xs; obtain ⟨z1, z2⟩ := HST.out.m4 (by omega); obtain ⟨z3, z4⟩ := HST.out.d5 (by omega); obtain ⟨z5, z6⟩ := HST.out.e4 (by omega) (by rw [HKD.out]; exact hbF); simp only at z1 z3 z5; subst z1 z3 z5)
            have HC := Lib.hid (fun W (kx : Ex wr W) => members_any (H.out.grow kx) z6 z4 z2)
            go_wp2
            refine wp_region_fork (wr) (.look 0 (.look 1 (.look 2 (.look 3 (.eff 4 .done))))) (by (try show Ex _ _); repeat (first | (with_reducible exact ex_refl _) | (with_reducible assumption) | (with_reducible refine ex_drewL ?_) | (with_reducible refine ex_appR ?_ _) | (with_reducible refine ex_wx ?_ _) | (with_reducible refine ex_drew ?_) | (with_reducible refine ex_alloc ?_ _))) (by kernel_rfl) (by kernel_rfl) (fun _ _ d _ _ h => by cases d <;> exact h) ?_
            simp only [Fk.ops, nth]
            repeat (first | ((with_reducible refine wpFork_look ?_); go_big_quiet_step (fail); (try (with_reducible refine wpQuiet_nil ?_))) | (with_reducible refine wpFork_eff ?_) | ((with_reducible refine effT_F ?_ ?_); (focus rfl); go_simp) | ((with_reducible refine effT_T ?_ ?_); (focus rfl); (try dsimp only); go_wp2_with ((go_at_call 55; (with_reducible refine (HG2.out _ (by (try show Ex _ _); repeat (first | (with_reducible exact ex_refl _) | (with_reducible assumption) | (with_reducible refine ex_drewL ?_) | (with_reducible refine ex_appR ?_ _) | (with_reducible refine ex_wx ?_ _) | (with_reducible refine ex_drew ?_) | (with_reducible refine ex_alloc ?_ _)))).mono ?_); rintro e w4 ⟨rfl, X4, rfl⟩)); refine mixQ_mk (by (try show Ex _ _); repeat (first | (with_reducible exact ex_refl _) | (with_reducible assumption) | (with_reducible refine ex_drewL ?_) | (with_reducible refine ex_appR ?_ _) | (with_reducible refine ex_wx ?_ _) | (with_reducible refine ex_drew ?_) | (with_reducible refine ex_alloc ?_ _))) ?_))
            all_goals (with_reducible refine wpFork_nil ?_)
            all_goals
              go_wp2_with (go_at_call 76; (with_reducible refine (HC.out _ (by (try show Ex _ _); repeat (first | (with_reducible exact ex_refl _) | (with_reducible assumption) | (with_reducible refine ex_drewL ?_) | (with_reducible refine ex_appR ?_ _) | (with_reducible refine ex_wx ?_ _) | (with_reducible refine ex_drew ?_) | (with_reducible refine ex_alloc ?_ _)))).mono ?_); rintro e w5 ⟨rfl, ⟨mv4, H4⟩, _⟩)
              refine ⟨⟨4 + 1, _, _, _, by omega, by go_num, Lib.hid H4, Lib.hid (by rw [fieldsP, ← HE.out, HFP.out]; rfl), Lib.hid ⟨fun h => absurd h (by omega), fun h => absurd h (by omega), fun h => absurd h (by omega), fun _ => ⟨rfl, z4⟩⟩, Lib.hid HKD.out⟩, by simp [intOf]⟩
          | false =>
            rw [hbF] at HB HFP
            have HG2 := Lib.hid (fun W (kx : Ex wr W) => HG.out W kx false HB.out)
            clear HG HB
            go_wp2
            refine wp_region_fork (wr) (.look 0 (.look 1 (.look 2 (.look 3 (.eff 4 .done))))) (by (try show Ex _ _); repeat (first | (with_reducible exact ex_refl _) | (with_reducible assumption) | (with_reducible refine ex_drewL ?_) | (with_reducible refine ex_appR ?_ _) | (with_reducible refine ex_wx ?_ _) | (with_reducible refine ex_drew ?_) | (with_reducible refine ex_alloc ?_ _))) (by kernel_rfl) (by kernel_rfl) (fun _ _ d _ _ h => by cases d <;> exact h) ?_
            simp only [Fk.ops, nth]
            repeat (first | ((with_reducible refine wpFork_look ?_); go_big_quiet_step (fail); (try (with_reducible refine wpQuiet_nil ?_))) | (with_reducible refine wpFork_eff ?_) | ((with_reducible refine effT_F ?_ ?_); (focus rfl); go_simp) | ((with_reducible refine effT_T ?_ ?_); (focus rfl); (try dsimp only); go_wp2_with ((go_at_call 55; (with_reducible refine (HG2.out _ (by (try show Ex _ _); repeat (first | (with_reducible exact ex_refl _) | (with_reducible assumption) | (with_reducible refine ex_drewL ?_) | (with_reducible refine ex_appR ?_ _) | (with_reducible refine ex_wx ?_ _) | (with_reducible refine ex_drew ?_) | (with_reducible refine ex_alloc ?_ _)))).mono ?_); rintro e w4 ⟨rfl, X4, rfl⟩)); refine mixQ_mk (by (try show Ex _ _); repeat (first | (with_reducible exact ex_refl _) | (with_reducible assumption) | (with_reducible refine ex_drewL ?_) | (with_reducible refine ex_appR ?_ _) | (with_reducible refine ex_wx ?_ _) | (with_reducible refine ex_drew ?_) | (with_reducible refine ex_alloc ?_ _))) ?_))
            all_goals (with_reducible refine wpFork_nil ?_)
            all_goals
              go_wp2
              refine ⟨⟨4 + 1, _, _, _, by omega, by go_num, Lib.hid (H.out.grow (by (try show Ex _ _); repeat (first | (with_reducible exact ex_refl _) | (with_reducible assumption) | (with_reducible refine ex_drewL ?_) | (with_reducible refine ex_appR ?_ _) | (with_reducible refine ex_wx ?_ _) | (with_reducible refine ex_drew ?_) | (with_reducible refine ex_alloc ?_ _)))), Lib.hid (by rw [fieldsP, ← HE.out, HFP.out]; rfl), Lib.hid HST.out.next, Lib.hid HKD.out⟩, by simp [intOf]⟩
        ·
          simp only [Nat.reducePow, Int.cast_ofNat_Int] at HG HB HFP
          have HFP := Lib.hid HFP
          cases hbF : hasF 5 (bn b1) with
          | true =>
            rw [hbF] at HB HFP
            have HG2 := Lib.hid (fun W (kx : Ex wr W) => HG.out W kx true HB.out)
            clear HG HB
            skip
            have HC := Lib.hid (fun W (kx : Ex wr W) => data_any (H.out.grow kx))
            go_wp2
            refine wp_region_fork (wr) (.look 0 (.look 1 (.look 2 (.look 3 (.eff 4 .done))))) (by (try show Ex _ _); repeat (first | (with_reducible exact ex_refl _) | (with_reducible assumption) | (with_reducible refine ex_drewL ?_) | (with_reducible refine ex_appR ?_ _) | (with_reducible refine ex_wx ?_ _) | (with_reducible refine ex_drew ?_) | (with_reducible refine ex_alloc ?_ _))) (by kernel_rfl) (by kernel_rfl) (fun _ _ d _ _ h => by cases d <;> exact h) ?_
            simp only [Fk.ops, nth]
            repeat (first | ((with_reducible refine wpFork_look ?_); go_big_quiet_step (fail); (try (with_reducible refine wpQuiet_nil ?_))) | (with_reducible refine wpFork_eff ?_) | ((with_reducible refine effT_F ?_ ?_); (focus rfl); go_simp) | ((with_reducible refine effT_T ?_ ?_); (focus rfl); (try dsimp only); go_wp2_with ((go_at_call 55; (with_reducible refine (HG2.out _ (by (try show Ex _ _); repeat (first | (with_reducible exact ex_refl _) | (with_reducible assumption) | (with_reducible refine ex_drewL ?_) | (with_reducible refine ex_appR ?_ _) | (with_reducible refine ex_wx ?_ _) | (with_reducible refine ex_drew ?_) | (with_reducible refine ex_alloc ?_ _)))).mono ?_); rintro e w4 ⟨rfl, X4, rfl⟩)); refine mixQ_mk (by (try show Ex _ _); repeat (first | (with_reducible exact ex_refl _) | (with_reducible assumption) | (with_reducible refine ex_drewL ?_) | (with_reducible refine ex_appR ?_ _) | (with_reducible refine ex_wx ?_ _) | (with_reducible refine ex_drew ?_) | (with_reducible refine ex_alloc ?_ _))) ?_))
            all_goals (with_reducible refine wpFork_nil ?_)
            all_goals
              go_wp2_with (go_at_call 77; (with_reducible refine (HC.out _ (by (try show Ex _ _); repeat (first | (with_reducible exact ex_refl _) | (with_reducible assumption) | (with_reducible refine ex_drewL ?_) | (with_reducible refine ex_appR ?_ _) | (with_reducible refine ex_wx ?_ _) | (with_reducible refine ex_drew ?_) | (with_reducible refine ex_alloc ?_ _)))).mono ?_); rintro e w5 ⟨rfl, ⟨dv4, H4⟩, _⟩)
              refine ⟨⟨5 + 1, _, _, _, by omega, by go_num, Lib.hid H4, Lib.hid (by rw [fieldsP, ← HE.out, HFP.out]; rfl), Lib.hid ⟨fun h => absurd h (by omega), fun h => absurd h (by omega), fun h => absurd h (by omega), fun h => absurd h (by omega)⟩, Lib.hid HKD.out⟩, by simp [intOf]⟩
          | false =>
            rw [hbF] at HB HFP
            have HG2 := Lib.hid (fun W (kx : Ex wr W) => HG.out W kx false HB.out)
            clear HG HB
            go_wp2
            refine wp_region_fork (wr) (.look 0 (.look 1 (.look 2 (.look 3 (.eff 4 .done))))) (by (try show Ex _ _); repeat (first | (with_reducible exact ex_refl _) | (with_reducible assumption) | (with_reducible refine ex_drewL ?_) | (with_reducible refine ex_appR ?_ _) | (with_reducible refine ex_wx ?_ _) | (with_reducible refine ex_drew ?_) | (with_reducible refine ex_alloc ?_ _))) (by kernel_rfl) (by kernel_rfl) (fun _ _ d _ _ h => by cases d <;> exact h) ?_
            simp only [Fk.ops, nth]
            repeat (first | ((with_reducible refine wpFork_look ?_); go_big_quiet_step (fail); (try (with_reducible refine wpQuiet_nil ?_))) | (with_reducible refine wpFork_eff ?_) | ((with_reducible refine effT_F ?_ ?_); (focus rfl); go_simp) | ((with_reducible refine effT_T ?_ ?_); (focus rfl); (try dsimp only); go_wp2_with ((go_at_call 55; (with_reducible refine (HG2.out _ (by (try show Ex _ _); repeat (first | (with_reducible exact ex_refl _) | (with_reducible assumption) | (with_reducible refine ex_drewL ?_) | (with_reducible refine ex_appR ?_ _) | (with_reducible refine ex_wx ?_ _) | (with_reducible refine ex_drew ?_) | (with_reducible refine ex_alloc ?_ _)))).mono ?_); rintro e w4 ⟨rfl, X4, rfl⟩)); refine mixQ_mk (by (try show Ex _ _); repeat (first | (with_reducible exact ex_refl _) | (with_reducible assumption) | (with_reducible refine ex_drewL ?_) | (with_reducible refine ex_appR ?_ _) | (with_reducible refine ex_wx ?_ _) | (with_reducible refine ex_drew ?_) | (with_reducible refine ex_alloc ?_ _))) ?_))
            all_goals (with_reducible refine wpFork_nil ?_)
            all_goals
              go_wp2
              refine ⟨⟨5 + 1, _, _, _, by omega, by go_num, Lib.hid (H.out.grow (by (try show Ex _ _); repeat (first | (with_reducible exact ex_refl _) | (with_reducible assumption) | (with_reducible refine ex_drewL ?_) | (with_reducible refine ex_appR ?_ _) | (with_reducible refine ex_wx ?_ _) | (with_reducible refine ex_drew ?_) | (with_reducible refine ex_alloc ?_ _)))), Lib.hid (by rw [fieldsP, ← HE.out, HFP.out]; rfl), Lib.hid HST.out.next, Lib.hid HKD.out⟩, by simp [intOf]⟩
      · obtain rfl : k = 6 := by omega
        clear hlt hk
        obtain ⟨n4, nf4⟩ := block_cells (n := 11) H.out.ms.hp rfl
        have hbz := H.out.bm_lt
        obtain ⟨xev, xmv, xdv⟩ := xs
        obtain ⟨f1, f2, f3, _⟩ := OwnE.form H.out.ms.es
        obtain ⟨f4, f5, f6, _⟩ := own_form H.out.ms.mb
        obtain ⟨f7, f8, f9, _⟩ := own_form H.out.ms.da
        simp only at f3 f6 f9 n4
        subst f3 f6 f9
        go_wp2
        have H5 := H.out.self
        have n5 := (block_cells (n := 11) H5.ms.hp rfl).1
        have he := HE.out
        rw [hrp2.out, ← he]
        exact ret_row Tryd.results49 Tryd.underlying41 rfl info_msg rfl n5 rfl ⟨_, rfl, H5.mso, H5.ex⟩
end Go.Proofs.YtpcfkjeikhehaaaDoor
