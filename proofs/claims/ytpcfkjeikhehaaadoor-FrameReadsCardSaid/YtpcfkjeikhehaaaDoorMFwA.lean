import Derived.Test.YtpcfkjeikhehaaaDoorMFrFew
import Derived.Test.YtpcfkjeikhehaaaDoorMRdF
import Derived.Test.YtpcfkjeikhehaaaDoorMSeqH

/- The document's side of messages: the fields that count. -/
set_option linter.unusedSimpArgs false
set_option linter.unusedVariables false
set_option maxRecDepth 20000
namespace Go.Proofs.YtpcfkjeikhehaaaDoor
open Go.RowKit
def fieldsL (k : Int) : List UInt8 := if k = 1 then [112] else if k = 2 then [111] else if k = 3 then [112, 99, 101] else if k = 4 then [111, 112] else if k = 5 then [112, 109, 100] else []
def fieldsS (k : Int) : ByteArray := ⟨(fieldsL k).toArray⟩
theorem fields_rows : (#[.string ⟨#[112]⟩, .string ⟨#[111]⟩, .string ⟨#[112, 99, 101]⟩, .string ⟨#[111, 112]⟩, .string ⟨#[112, 109, 100]⟩] : Array Value) = rowS 5 fun i => fieldsS (i + 1) := by rfl
@[go_sem high] theorem fields_at (i : Int) (w : World) : (Instr.index 95 (.agg #[.string ⟨#[112]⟩, .string ⟨#[111]⟩, .string ⟨#[112, 99, 101]⟩, .string ⟨#[111, 112]⟩, .string ⟨#[112, 109, 100]⟩]) (.int .i64 i)).run Tryd.prog w = if 0 ≤ i ∧ i < (5 : Nat) then .ok (.string (fieldsS (i.toNat + 1))) w else idxRaw Tryd.prog 95 (.agg (rowS 5 fun i => fieldsS (i + 1))) (.int .i64 i) w := by
  rw [fields_rows]; exact index_rowS (n := 5) Tryd.underlying95 Tryd.underlying9 (by kernel_rfl) (fun i => fieldsS (i + 1)) i w
theorem fields_any (k : Int) (w : World) : Calls Tryd.prog 38 #[I k] w (Post w (.string (fieldsS k))) := by
  by_cases hk : 1 ≤ k ∧ k ≤ 5
  · have h1 : ¬ k < 1 := by omega
    have h2 : ¬ 5 < k := by omega
    have h3 : 0 ≤ k - 1 := by omega
    have h4 : k - 1 < 5 := by omega
    have h5 : fieldsS (((k.toNat - 1 : Nat) : Int) + 1) = fieldsS k := by rw [show (((k.toNat - 1 : Nat) : Nat) : Int) + 1 = k by omega]
    replace h5 := Lib.hid h5
    clear hk
    go_enter Tryd.func38, Tryd.ntmps38
    go_wp2
    go_ret
    exact post_mk (congrArg (fun s => Ending.returned (.string s)) h5.out) (by (try show Ex _ _); repeat (first | (with_reducible exact ex_refl _) | (with_reducible assumption) | (with_reducible refine ex_drewL ?_) | (with_reducible refine ex_appR ?_ _) | (with_reducible refine ex_wx ?_ _) | (with_reducible refine ex_drew ?_) | (with_reducible refine ex_alloc ?_ _)))
  · have hf : fieldsS k = ⟨#[]⟩ := by
      unfold fieldsS fieldsL
      rw [if_neg (by omega), if_neg (by omega), if_neg (by omega), if_neg (by omega), if_neg (by omega)]
    rw [hf]
    rcases (show k < 1 ∨ (¬ k < 1 ∧ 5 < k) by omega) with h1 | ⟨h1, h2⟩
    all_goals
      clear hk hf
      go_enter Tryd.func38, Tryd.ntmps38
      go_wp2
      go_ret
      exact post_mk rfl (by (try show Ex _ _); repeat (first | (with_reducible exact ex_refl _) | (with_reducible assumption) | (with_reducible refine ex_drewL ?_) | (with_reducible refine ex_appR ?_ _) | (with_reducible refine ex_wx ?_ _) | (with_reducible refine ex_drew ?_) | (with_reducible refine ex_alloc ?_ _)))
/-- A byte of a text. -/
def sb (s : ByteArray) (k : Nat) : UInt8 := s.data.getD k 0
theorem sb_get (s : ByteArray) (k : Nat) (h : k < s.size) : s[k] = sb s k := by
  unfold sb
  have h2 : k < s.data.size := h
  rw [Array.getD_eq_getD_getElem?, Array.getElem?_eq_getElem h2]; rfl
theorem index_sbF (s : ByteArray) (i : Int) (w : World) :
    (Instr.index 9 (.string s) (.int .i64 i)).run Tryd.prog w = if 0 ≤ i ∧ i < s.size then .ok (.int .u8 (bn (sb s i.toNat))) w else idxRaw Tryd.prog 9 (.string s) (.int .i64 i) w := by
  split
  · rename_i h
    rw [run_index_string w 9 s .i64 i Tryd.underlying9, dif_pos h]
    congr 2
    unfold bn
    rw [sb_get]
  · rfl
attribute [local go_sem high] index_sbF
theorem bn_beq (x y : UInt8) : (bn x == bn y) = decide (x = y) := by
  rw [Bool.eq_iff_iff, beq_iff_eq, decide_eq_true_eq]
  exact ⟨fun h => bn_inj h, fun h => by rw [h]⟩
theorem sb_mem (l : List UInt8) (f : UInt8) : (∃ i, i < l.length ∧ sb ⟨l.toArray⟩ i = f) ↔ f ∈ l := by
  rw [List.mem_iff_getElem]
  constructor
  · rintro ⟨i, hi, h⟩
    refine ⟨i, hi, ?_⟩
    rw [← h]; simp [sb, hi]
  · rintro ⟨i, hi, h⟩
    refine ⟨i, hi, ?_⟩
    rw [← h]; simp [sb, hi]
theorem counts_any (k : Int) (f : UInt8) (w : World) : Calls Tryd.prog 64 #[I k, B f] w (Post w (.bool (decide (f ∈ fieldsL k)))) := by
  have H1 : Hid ((∀ i, i < (fieldsS k).size → sb (fieldsS k) i ≠ f) → decide (f ∈ fieldsL k) = false) := Lib.hid fun h => decide_eq_false fun hm => by
    obtain ⟨i, hi, he⟩ := (sb_mem _ _).2 hm
    exact h i hi he
  have H0 : Hid (∀ i, i < (fieldsS k).size → sb (fieldsS k) i = f → decide (f ∈ fieldsL k) = true) := Lib.hid fun i hi he => decide_eq_true ((sb_mem _ _).1 ⟨i, hi, he⟩)
  have HF := Lib.hid (fields_any k)
  have hz : (fieldsS k).size ≤ 3 := by
    unfold fieldsS fieldsL
    repeat' split
    all_goals decide
  generalize decide (f ∈ fieldsL k) = ov at *
  generalize fieldsS k = s at *
  go_enter Tryd.func64, Tryd.ntmps64
  go_wp2_with (go_at_call 38; (with_reducible refine (HF.out _).mono ?_); rintro e w2 ⟨rfl, X, rfl⟩)
  generalize hn : s.size = n at *
  go_loopw [11] (fun i wr => ∃ k : Nat, k ≤ n ∧ i = I k ∧ Hid (∀ i, i < k → sb s i ≠ f) ∧ Ex w wr) (fun i _ => n - (intOf i).toNat)
  case atStart => exact ⟨0, by omega, rfl, Lib.hid (fun i hi => absurd hi (by omega)), (by (try show Ex _ _); repeat (first | (with_reducible exact ex_refl _) | (with_reducible assumption) | (with_reducible refine ex_drewL ?_) | (with_reducible refine ex_appR ?_ _) | (with_reducible refine ex_wx ?_ _) | (with_reducible refine ex_drew ?_) | (with_reducible refine ex_alloc ?_ _)))⟩
  case round =>
    obtain ⟨q, hq, rfl, HQ, X9, rfl⟩ := hrel
    by_cases hlt : q < n
    · have hs : q < s.size := by omega
      have hz2 : ((q : Nat) : Int) < s.size := by omega
      cases hb : decide (sb s q = f) with
      | true =>
        have he : (bn (sb s q) == bn f) = true := by rw [bn_beq]; exact hb
        have ho := H0.out q hlt (of_decide_eq_true hb)
        clear hb
        go_wp2
        go_ret
        exact post_mk (congrArg (fun b => Ending.returned (.bool b)) ho.symm) (by (try show Ex _ _); repeat (first | (with_reducible exact ex_refl _) | (with_reducible assumption) | (with_reducible refine ex_drewL ?_) | (with_reducible refine ex_appR ?_ _) | (with_reducible refine ex_wx ?_ _) | (with_reducible refine ex_drew ?_) | (with_reducible refine ex_alloc ?_ _)))
      | false =>
        have he : (bn (sb s q) == bn f) = false := by rw [bn_beq]; exact hb
        have hb := Lib.hid (of_decide_eq_false hb)
        go_wp2
        refine ⟨⟨q + 1, by omega, by go_num, Lib.hid fun i hi => ?_, (by (try show Ex _ _); repeat (first | (with_reducible exact ex_refl _) | (with_reducible assumption) | (with_reducible refine ex_drewL ?_) | (with_reducible refine ex_appR ?_ _) | (with_reducible refine ex_wx ?_ _) | (with_reducible refine ex_drew ?_) | (with_reducible refine ex_alloc ?_ _)))⟩, by simp [intOf]; omega⟩
        rcases Nat.lt_or_ge i q with h9 | h9
        · exact HQ.out i h9
        · obtain rfl : i = q := by omega
          exact hb.out
    · obtain rfl : q = n := by omega
      have ho := H1.out HQ.out
      clear hlt
      go_wp2
      go_ret
      exact post_mk (congrArg (fun b => Ending.returned (.bool b)) ho.symm) (by (try show Ex _ _); repeat (first | (with_reducible exact ex_refl _) | (with_reducible assumption) | (with_reducible refine ex_drewL ?_) | (with_reducible refine ex_appR ?_ _) | (with_reducible refine ex_wx ?_ _) | (with_reducible refine ex_drew ?_) | (with_reducible refine ex_alloc ?_ _)))
end Go.Proofs.YtpcfkjeikhehaaaDoor

/- The frame's reader fills a message. -/
set_option linter.unusedSimpArgs false
set_option linter.unusedVariables false
set_option maxRecDepth 20000
namespace Go.Proofs.YtpcfkjeikhehaaaDoor
open Go.RowKit
section
variable {w : World} {Z bm : Nat} {xs : Value × Value × Value} {m : Ms}
theorem keep_set {w : World} {Z b : Nat} (hb : b < Z) (o : Nat) (x : Value) : Keep Z w (w.setCell ⟨b, o, none⟩ x) := Keep.set (Keep.refl _ _) hb _
theorem MsM.setOk (h : MsM w Z bm xs m) (hb : bm < Z) (x : Bool) : MsM (w.setCell ⟨bm, 8, none⟩ (.bool x)) Z bm xs { m with ok := x } :=
  ⟨setCell_block _ h.hp, h.es.keep (keep_set hb _ _), own_keep h.mb (keep_set hb _ _), own_keep h.da (keep_set hb _ _)⟩
theorem MsM.setPi (h : MsM w Z bm xs m) (hb : bm < Z) (x : UInt64) : MsM (w.setCell ⟨bm, 4, none⟩ (L x)) Z bm xs { m with pi := x } :=
  ⟨setCell_block _ h.hp, h.es.keep (keep_set hb _ _), own_keep h.mb (keep_set hb _ _), own_keep h.da (keep_set hb _ _)⟩
theorem MsM.setPt (h : MsM w Z bm xs m) (hb : bm < Z) (x : UInt64) : MsM (w.setCell ⟨bm, 5, none⟩ (L x)) Z bm xs { m with pt := x } :=
  ⟨setCell_block _ h.hp, h.es.keep (keep_set hb _ _), own_keep h.mb (keep_set hb _ _), own_keep h.da (keep_set hb _ _)⟩
theorem MsM.setCm (h : MsM w Z bm xs m) (hb : bm < Z) (x : UInt64) : MsM (w.setCell ⟨bm, 7, none⟩ (L x)) Z bm xs { m with cm := x } :=
  ⟨setCell_block _ h.hp, h.es.keep (keep_set hb _ _), own_keep h.mb (keep_set hb _ _), own_keep h.da (keep_set hb _ _)⟩
theorem MsM.setTm (h : MsM w Z bm xs m) (hb : bm < Z) (x : UInt64) : MsM (w.setCell ⟨bm, 3, none⟩ (L x)) Z bm xs { m with tm := x } :=
  ⟨setCell_block _ h.hp, h.es.keep (keep_set hb _ _), own_keep h.mb (keep_set hb _ _), own_keep h.da (keep_set hb _ _)⟩
theorem MsM.setKd (h : MsM w Z bm xs m) (hb : bm < Z) (x : Int) : MsM (w.setCell ⟨bm, 0, none⟩ (I x)) Z bm xs { m with kd := x } :=
  ⟨setCell_block _ h.hp, h.es.keep (keep_set hb _ _), own_keep h.mb (keep_set hb _ _), own_keep h.da (keep_set hb _ _)⟩
theorem MsM.setFr (h : MsM w Z bm xs m) (hb : bm < Z) (x : Int) : MsM (w.setCell ⟨bm, 1, none⟩ (I x)) Z bm xs { m with fr := x } :=
  ⟨setCell_block _ h.hp, h.es.keep (keep_set hb _ _), own_keep h.mb (keep_set hb _ _), own_keep h.da (keep_set hb _ _)⟩
theorem MsM.setTo (h : MsM w Z bm xs m) (hb : bm < Z) (x : Int) : MsM (w.setCell ⟨bm, 2, none⟩ (I x)) Z bm xs { m with to := x } :=
  ⟨setCell_block _ h.hp, h.es.keep (keep_set hb _ _), own_keep h.mb (keep_set hb _ _), own_keep h.da (keep_set hb _ _)⟩
theorem MsM.setDa (h : MsM w Z bm xs m) (hb : bm < Z) {dv : Value} {d : List UInt8} (hd : OwnL w Z dv d) : MsM (w.setCell ⟨bm, 10, none⟩ dv) Z bm (xs.1, xs.2.1, dv) { m with da := d } :=
  ⟨setCell_block _ h.hp, h.es.keep (keep_set hb _ _), own_keep h.mb (keep_set hb _ _), own_keep hd (keep_set hb _ _)⟩
theorem MsM.cells (h : MsM w Z bm xs m) : (w.cell? ⟨bm, 0, none⟩ = some (I m.kd) ∧ w.cell? ⟨bm, 1, none⟩ = some (I m.fr) ∧ w.cell? ⟨bm, 2, none⟩ = some (I m.to) ∧ w.cell? ⟨bm, 3, none⟩ = some (L m.tm) ∧ w.cell? ⟨bm, 4, none⟩ = some (L m.pi) ∧ w.cell? ⟨bm, 5, none⟩ = some (L m.pt) ∧
    w.cell? ⟨bm, 6, none⟩ = some xs.1 ∧ w.cell? ⟨bm, 7, none⟩ = some (L m.cm) ∧ w.cell? ⟨bm, 8, none⟩ = some (.bool m.ok) ∧ w.cell? ⟨bm, 9, none⟩ = some xs.2.1 ∧ w.cell? ⟨bm, 10, none⟩ = some xs.2.2) ∧ (∀ o, w.frozen? ⟨bm, o, none⟩ = false) := by
  have h0 := h.hp
  exact ⟨⟨(block_cell h0 rfl).1, (block_cell h0 rfl).1, (block_cell h0 rfl).1, (block_cell h0 rfl).1, (block_cell h0 rfl).1, (block_cell h0 rfl).1, (block_cell h0 rfl).1, (block_cell h0 rfl).1, (block_cell h0 rfl).1, (block_cell h0 rfl).1, (block_cell h0 rfl).1⟩,
    fun o => by simp [World.frozen?, h0]⟩
end
theorem L_nat (n : Nat) (h : n < 18446744073709551616) : (Value.int .u64 (n : Int)) = L (UInt64.ofNat n) := by
  show _ = Value.int .u64 ((UInt64.ofNat n).toNat : Int)
  rw [UInt64.toNat_ofNat_of_lt' (by exact h)]
section
variable {A w : World} {Z p q bm : Nat} {xs : Value × Value × Value} {v : Value} {l : List UInt8} {s : Rs} {m : Ms}
theorem RdM.bm_lt (h : RdM A w Z p q bm xs v l s m) : bm < w.heap.size := Nat.lt_of_lt_of_le h.hb.2 h.hz
theorem agreed_any (h : RdM A w Z p q bm xs v l s m) :
    Calls Tryd.prog 74 #[PT p, PT bm] w fun x w' => x = .returned (.tuple #[]) ∧ RdM A w' Z p q bm xs v l (agreedP l s m).1 (agreedP l s m).2 ∧ w.heap.size ≤ w'.heap.size := by
  have HN := Lib.hid (number_any h)
  have hx := L_nat _ (num_lt l s)
  unfold agreedP
  generalize numP l s = r at *
  obtain ⟨x, s1⟩ := r
  simp only at HN hx ⊢
  rw [hx] at HN
  generalize UInt64.ofNat x = y at *
  clear hx h
  go_enter Tryd.func74, Tryd.ntmps74
  go_wp2_with (go_at_call 71; (with_reducible refine (HN.out).mono ?_); rintro e w3 ⟨rfl, H2, zz2⟩; obtain ⟨⟨b0, b1, b2, b3, b4, b5, b6, b7, b8, b9, b10⟩, bf⟩ := H2.ms.cells; have bz := H2.bm_lt; replace H2 := Lib.hid H2)
  go_end0
  exact ⟨rfl, H2.out.setB (H2.out.ms.setCm H2.out.hb.2 _), by rw [set_size]; exact zz2.size⟩
theorem place_any (h : RdM A w Z p q bm xs v l s m) :
    Calls Tryd.prog 73 #[PT p, PT bm] w fun x w' => x = .returned (.tuple #[]) ∧ RdM A w' Z p q bm xs v l (placeP l s m).1 (placeP l s m).2 ∧ w.heap.size ≤ w'.heap.size := by
  have HN := Lib.hid (number_any h)
  have HM := Lib.hid (fun W m' (hW : RdM A W Z p q bm xs v l (numP l s).2 m') => number_any hW)
  have hx := L_nat _ (num_lt l s)
  have hy := L_nat _ (num_lt l (numP l s).2)
  unfold placeP
  generalize numP l (numP l s).2 = r2 at *
  generalize numP l s = r at *
  obtain ⟨x, s1⟩ := r
  obtain ⟨y, s2⟩ := r2
  simp only at HN HM hx hy ⊢
  rw [hx] at HN
  rw [hy] at HM
  generalize UInt64.ofNat x = x at *
  generalize UInt64.ofNat y = y at *
  clear hx hy h
  go_enter Tryd.func73, Tryd.ntmps73
  go_wp2_with (first | (go_at_call 71; (with_reducible refine (HN.out).mono ?_); rintro e w3 ⟨rfl, H2, zz2⟩; obtain ⟨⟨b0, b1, b2, b3, b4, b5, b6, b7, b8, b9, b10⟩, bf⟩ := H2.ms.cells; have bz := H2.bm_lt; have H3 := Lib.hid (H2.setB (H2.ms.setPi H2.hb.2 x)); clear H2) | (go_at_call 71; (with_reducible refine (HM.out _ _ H3.out).mono ?_); rintro e w4 ⟨rfl, H4, zz4⟩; obtain ⟨⟨b0, b1, b2, b3, b4, b5, b6, b7, b8, b9, b10⟩, bf⟩ := H4.ms.cells; have bz4 := H4.bm_lt; replace H4 := Lib.hid H4))
  go_end0
  exact ⟨rfl, H4.out.setB (H4.out.ms.setPt H4.out.hb.2 _), by rw [set_size]; exact Nat.le_trans zz2.size (by have := zz4.size; rw [set_size] at this; exact this)⟩
theorem voice_any (h : RdM A w Z p q bm xs v l s m) :
    Calls Tryd.prog 72 #[PT p, PT bm] w fun x w' => x = .returned (.tuple #[]) ∧ RdM A w' Z p q bm xs v l (voiceP l s m).1 (voiceP l s m).2 ∧ w.heap.size ≤ w'.heap.size := by
  have HN := Lib.hid (u8_any h)
  obtain ⟨_, ⟨p0, p1, p2, pf⟩, hqz, hpz⟩ := h.cells
  unfold voiceP
  generalize u8P l s = r at *
  obtain ⟨b, s1⟩ := r
  obtain ⟨pl, er, bad⟩ := s1
  simp only at HN ⊢
  have h1 : ((1 : Int) < bn b) = (1 < b.toNat) := by unfold bn; simp; omega
  have h2 : (bn b == 1) = decide (b = 1) := bn_beq b 1
  have hne := h.pb
  clear h
  generalize hb1 : decide (b = 1) = b1 at *
  cases bad with
  | true =>
    rw [Bool.true_or]
    clear h1
    go_enter Tryd.func72, Tryd.ntmps72
    go_wp2_with (go_at_call 70; (with_reducible refine (HN.out).mono ?_); rintro e w3 ⟨rfl, H2, zz2⟩; obtain ⟨_, ⟨r0, r1, r2, rf⟩, rqz, rpz⟩ := H2.cells; simp only at r2; have bz := H2.bm_lt; obtain ⟨⟨c0, c1, c2, c3, c4, c5, c6, c7, c8, c9, c10⟩, cf⟩ := H2.ms.cells; have H3 := Lib.hid (H2.setBad true); clear H2)
    go_end0
    exact ⟨rfl, H3.out.setB (H3.out.ms.setOk H3.out.hb.2 _), by rw [set_size, set_size]; exact zz2.size⟩
  | false =>
    rw [Bool.false_or]
    by_cases hb2 : 1 < b.toNat
    · rw [decide_eq_true hb2]
      have h3 : decide ((1 : Int) < bn b) = true := by rw [decide_eq_true_iff, h1]; exact hb2
      clear h1
      go_enter Tryd.func72, Tryd.ntmps72
      go_wp2_with (go_at_call 70; (with_reducible refine (HN.out).mono ?_); rintro e w3 ⟨rfl, H2, zz2⟩; obtain ⟨_, ⟨r0, r1, r2, rf⟩, rqz, rpz⟩ := H2.cells; simp only at r2; have bz := H2.bm_lt; obtain ⟨⟨c0, c1, c2, c3, c4, c5, c6, c7, c8, c9, c10⟩, cf⟩ := H2.ms.cells; have H3 := Lib.hid (H2.setBad true); clear H2)
      go_end0
      exact ⟨rfl, H3.out.setB (H3.out.ms.setOk H3.out.hb.2 _), by rw [set_size, set_size]; exact zz2.size⟩
    · rw [decide_eq_false hb2]
      have h3 : decide ((1 : Int) < bn b) = false := by rw [decide_eq_false_iff_not, h1]; exact hb2
      clear h1
      go_enter Tryd.func72, Tryd.ntmps72
      go_wp2_with (go_at_call 70; (with_reducible refine (HN.out).mono ?_); rintro e w3 ⟨rfl, H2, zz2⟩; obtain ⟨_, ⟨r0, r1, r2, rf⟩, rqz, rpz⟩ := H2.cells; simp only at r2; have bz := H2.bm_lt; obtain ⟨⟨c0, c1, c2, c3, c4, c5, c6, c7, c8, c9, c10⟩, cf⟩ := H2.ms.cells; have H3 := Lib.hid (H2.setBad false); clear H2)
      go_end0
      exact ⟨rfl, H3.out.setB (H3.out.ms.setOk H3.out.hb.2 _), by rw [set_size, set_size]; exact zz2.size⟩
noncomputable def cx (A : World) (b o : Nat) (X : World) : World := open Classical in if X.cell? ⟨b, o, none⟩ = A.cell? ⟨b, o, none⟩ then X else A
@[go_sem high] theorem cx_cell (A : World) (b o : Nat) (X : World) : (cx A b o X).cell? ⟨b, o, none⟩ = A.cell? ⟨b, o, none⟩ := by
  unfold cx; split
  · assumption
  · rfl
theorem set_other {w : World} {b o p i : Nat} (h : p ≠ b) (x : Value) : (w.setCell ⟨b, o, none⟩ x).cell? ⟨p, i, none⟩ = w.cell? ⟨p, i, none⟩ := by
  simp only [World.cell?, setCell_heap x h]
theorem cx_of {A X : World} {b o : Nat} (h : X.cell? ⟨b, o, none⟩ = A.cell? ⟨b, o, none⟩) : X = cx A b o X := by unfold cx; rw [if_pos h]
theorem data_any (h : RdM A w Z p q bm xs v l s m) :
    Calls Tryd.prog 77 #[PT p, PT bm] w fun x w' => x = .returned (.tuple #[]) ∧ (∃ dv, RdM A w' Z p q bm (xs.1, xs.2.1, dv) v l (dataP l s m).1 (dataP l s m).2) ∧ w.heap.size ≤ w'.heap.size := by
  have HN := fun W (k : Ex w W) => many_any (h.grow k) 65536 (by omega)
  simp only [Int.cast_ofNat_Int] at HN
  replace HN := Lib.hid HN
  have hle := many_le l 65536 s
  have HW := Lib.hid (fun W (hW : RdM A W Z p q bm xs v l (manyP l 65536 s).2 m) => rraw_any hW (manyP l 65536 s).1 (by omega))
  obtain ⟨_, ⟨p0, p1, p2, pf⟩, hqz, hpz⟩ := h.cells
  unfold dataP
  generalize manyP l 65536 s = r at *
  obtain ⟨n, s1⟩ := r
  simp only at HN HW hle ⊢
  generalize rawP l n s1 = r2 at *
  obtain ⟨d, s2⟩ := r2
  simp only at HW ⊢
  have hne := h.pb
  clear h
  go_enter Tryd.func77, Tryd.ntmps77
  go_wp2
  refine wp_region_forkH (fun w' => ∃ X, w' = cx w p 0 X) (.look 0 (.look 1 (.look 2 (.look 3 (.look 4 (.look 5 (.eff 6 (.eff 7 (.look 8 (.look 9 (.eff 10 .done))))))))))) (⟨_, cx_of rfl⟩) (by kernel_rfl) (by kernel_rfl) (fun _ _ d _ _ h => by cases d <;> exact h) ?_
  simp only [Fk.ops, nth]
  repeat (first | ((with_reducible refine wpForkH_look ?_); go_big_quiet_step (fail); (try (with_reducible refine wpQuiet_nil ?_))) | (with_reducible refine wpForkH_eff ?_) | ((with_reducible refine effH_F ?_ ?_); (focus rfl); go_simp) | ((with_reducible refine effH_T ?_ ?_); (focus rfl); (try dsimp only); go_wp2_with (first | (go_at_call 90; (with_reducible refine (HN.out _ (by (try show Ex _ _); repeat (first | (with_reducible exact ex_refl _) | (with_reducible assumption) | (with_reducible refine ex_drewL ?_) | (with_reducible refine ex_appR ?_ _) | (with_reducible refine ex_wx ?_ _) | (with_reducible refine ex_drew ?_) | (with_reducible refine ex_alloc ?_ _)))).mono ?_); rintro e w3 ⟨rfl, H2, zz2⟩; obtain ⟨_, ⟨r0, r1, r2, rf⟩, rqz, rpz⟩ := H2.cells; replace H2 := Lib.hid H2) | (go_at_call 91; (with_reducible refine (HW.out _ H2.out).mono ?_); rintro e w4 ⟨u, rfl, hO, H4, zz4⟩; obtain ⟨ua, uc, rfl, _⟩ := own_form hO; obtain ⟨_, ⟨t0, t1, t2, tf⟩, tqz, tpz⟩ := H4.cells; have bz := H4.bm_lt; obtain ⟨⟨c0, c1, c2, c3, c4, c5, c6, c7, c8, c9, c10⟩, cf⟩ := H4.ms.cells; replace H4 := Lib.hid H4; replace hO := Lib.hid hO)); refine mixQH_mk (⟨_, cx_of (by first | exact r0.trans p0.symm | exact t0.trans p0.symm | exact (set_other hne _).trans (t0.trans p0.symm))⟩) ?_))
  all_goals (with_reducible refine wpForkH_nil ?_)
  all_goals
    go_wp2
    go_end0
    exact ⟨rfl, ⟨_, H4.out.setB (H4.out.ms.setDa H4.out.hb.2 (owns_low hO.out H2.out.hz))⟩, by rw [set_size]; exact Nat.le_trans zz2.size zz4.size⟩
end
end Go.Proofs.YtpcfkjeikhehaaaDoor
