import Derived.Test.YtpcfkjeikhehaaaDoorMFwY
import Derived.Test.YtpcfkjeikhehaaaDoorMRdB

/- The document's Decode: the plain law. -/
set_option linter.unusedSimpArgs false
set_option linter.unusedVariables false
namespace Go.Proofs.YtpcfkjeikhehaaaDoor
def PreW (L : List UInt8) (a : Ms × List UInt8 × Bool) : Nat → Ms × List UInt8 × Bool → Prop
  | 0, b => b = a
  | k + 1, b => ∃ y, PreW L a k y ∧ y.2.2 = false ∧ FRel (L.getD k 0) y b
def headD (own : List UInt8) : Ms × List UInt8 × Bool :=
  let a := oneD own false
  let b := oneD a.2.1 a.2.2
  let c := numD b.2.1 b.2.2
  ({ noM with kd := a.1.toNat, fr := (b.1.toNat / 16 : Nat), to := (b.1.toNat % 16 : Nat), tm := UInt64.ofNat c.1 }, c.2)
theorem headD_plain {M : Ms} (hr : rightM M = true) : headD (plainM M) = ({ noM with kd := M.kd, fr := M.fr, to := M.to, tm := M.tm }, (fieldsL M.kd).flatMap (fieldB M), false) := by
  obtain ⟨⟨a1, a2⟩, zx, ⟨a3, a4, a5, a6⟩, a7, a8, a9, a10, a11⟩ := rightM_spec hr
  rw [← plain_fields ⟨a1, a2⟩]
  unfold headD headL
  simp only [List.cons_append, List.nil_append, List.append_assoc]
  have e1 := byteI_nat (n := M.kd) (by omega) (by omega)
  have e2 := byteI_nat (n := 16 * M.fr + M.to) (by omega) (by omega)
  rw [oneD_cons]
  simp only
  rw [oneD_cons]
  simp only
  rw [numD_short _ M.tm.toNat_lt, UInt64.ofNat_toNat, e1]
  rw [show ((((byteI (16 * M.fr + M.to)).toNat / 16 : Nat) : Nat) : Int) = M.fr by omega, show ((((byteI (16 * M.fr + M.to)).toNat % 16 : Nat) : Nat) : Int) = M.to by omega]
def setsF (M : Ms) (L : List UInt8) (m : Ms) : Ms := L.foldl (fun m f => setF M f m) m
theorem preW_gen {M : Ms} (hr : rightM M = true) (L : List UInt8) (m0 : Ms) (hpt : ∀ k, k < L.length → L.getD k 0 = 101 → (setsF M (L.take k) m0).pt = M.pt) :
    ∀ k b, k ≤ L.length → PreW L (m0, L.flatMap (fieldB M), false) k b → b = (setsF M (L.take k) m0, (L.drop k).flatMap (fieldB M), false) := by
  intro k
  induction k with
  | zero => intro b _ h; simp only [PreW] at h; rw [h]; simp [setsF]
  | succ k ih =>
    intro b hk h
    simp only [PreW] at h
    obtain ⟨y, h1, h2, h3⟩ := h
    have e := ih y (by omega) h1
    subst e
    have hdk : L.drop k = L[k] :: L.drop (k + 1) := List.drop_eq_getElem_cons (by omega)
    have hg : L.getD k 0 = L[k] := by rw [List.getD_eq_getElem?_getD, List.getElem?_eq_getElem (by omega)]; rfl
    rw [hdk, List.flatMap_cons] at h3
    rw [hg] at h3
    have := frel_good hr (fun e => hpt k (by omega) (by rw [hg]; exact e)) h3
    rw [this]
    rw [List.take_succ_eq_append_getElem (by omega)]
    unfold setsF
    rw [List.foldl_append]
    rfl
theorem preW_good {M : Ms} (hr : rightM M = true) : ∀ k b, k ≤ (fieldsL M.kd).length → PreW (fieldsL M.kd) ({ noM with kd := M.kd, fr := M.fr, to := M.to, tm := M.tm }, (fieldsL M.kd).flatMap (fieldB M), false) k b →
    b.2.2 = false ∧ (k = (fieldsL M.kd).length → b.1 = M) := by
  obtain ⟨⟨a1, a2⟩, zx, ⟨a3, a4, a5, a6⟩, a7, a8, a9, a10, a11⟩ := rightM_spec hr
  have hk : M.kd = 1 ∨ M.kd = 2 ∨ M.kd = 3 ∨ M.kd = 4 ∨ M.kd = 5 := by omega
  intro k b hkl h
  have hpt : ∀ k, k < (fieldsL M.kd).length → (fieldsL M.kd).getD k 0 = 101 → (setsF M ((fieldsL M.kd).take k) { noM with kd := M.kd, fr := M.fr, to := M.to, tm := M.tm }).pt = M.pt := by
    intro k hk1 hk2
    rcases hk with hk | hk | hk | hk | hk
    · have hL : fieldsL M.kd = [112] := by rw [hk]; rfl
      rw [hL] at hk1 hk2 ⊢
      simp only [List.length_cons, List.length_nil] at hk1
      rcases (show k = 0 by omega) with rfl
      exact absurd hk2 (by decide)
    · have hL : fieldsL M.kd = [111] := by rw [hk]; rfl
      rw [hL] at hk1 hk2 ⊢
      simp only [List.length_cons, List.length_nil] at hk1
      rcases (show k = 0 by omega) with rfl
      exact absurd hk2 (by decide)
    · have hL : fieldsL M.kd = [112, 99, 101] := by rw [hk]; rfl
      rw [hL] at hk1 hk2 ⊢
      simp only [List.length_cons, List.length_nil] at hk1
      rcases (show k = 0 ∨ k = 1 ∨ k = 2 by omega) with rfl | rfl | rfl
      · exact absurd hk2 (by decide)
      · exact absurd hk2 (by decide)
      · rfl
    · have hL : fieldsL M.kd = [111, 112] := by rw [hk]; rfl
      rw [hL] at hk1 hk2 ⊢
      simp only [List.length_cons, List.length_nil] at hk1
      rcases (show k = 0 ∨ k = 1 by omega) with rfl | rfl
      · exact absurd hk2 (by decide)
      · exact absurd hk2 (by decide)
    · have hL : fieldsL M.kd = [112, 109, 100] := by rw [hk]; rfl
      rw [hL] at hk1 hk2 ⊢
      simp only [List.length_cons, List.length_nil] at hk1
      rcases (show k = 0 ∨ k = 1 ∨ k = 2 by omega) with rfl | rfl | rfl
      · exact absurd hk2 (by decide)
      · exact absurd hk2 (by decide)
      · exact absurd hk2 (by decide)
  have hb := preW_gen hr (fieldsL M.kd) _ hpt k b hkl h
  subst hb
  refine ⟨rfl, fun e => ?_⟩
  simp only
  rw [e, List.take_length]
  simp only [zeroM, Bool.and_eq_true, Bool.or_eq_true, beq_iff_eq, Bool.not_eq_true', decide_eq_true_eq] at zx
  obtain ⟨⟨⟨⟨⟨x1, x2⟩, x3⟩, x4⟩, x5⟩, x6⟩ := zx
  clear h hpt e hkl hr
  obtain ⟨kd, fr, to, tm, pi, pt, es, cm, ok, mb, da⟩ := M
  simp only at hk
  rcases hk with rfl | rfl | rfl | rfl | rfl <;> (simp [hasO, hasP, hasC, hasE, hasM, hasD, noM] at x1 x2 x3 x4 x5 x6; simp [setsF, setF, fieldsL, noM, x1, x2, x3, x4, x5, x6])
/-- Where the document's taker ends tells what the answer is. -/
theorem decD {l : List UInt8} (h16 : 16 ≤ l.length) (hse : sealL (l.drop 16) = l) {k : Nat} {b : Ms × List UInt8 × Bool} (hk : k ≤ (fieldsL (headD (l.drop 16)).1.kd).length) (hp : PreW (fieldsL (headD (l.drop 16)).1.kd) (headD (l.drop 16)) k b)
    (he : k = (fieldsL (headD (l.drop 16)).1.kd).length ∨ b.2.2 = true) : decP l = if b.2.2 = false ∧ rightM b.1 = true ∧ plainM b.1 = l.drop 16 then (b.1, 0) else (noM, 171) := by
  unfold decP
  rw [if_neg (by omega), if_pos hse]
  by_cases h : b.2.2 = false ∧ rightM b.1 = true ∧ plainM b.1 = l.drop 16
  · rw [if_pos h]
    obtain ⟨_, h2, h3⟩ := h
    have hrd : readP (l.drop 16) = b.1 := by rw [← h3, read_plain h2]
    rw [hrd, if_pos (by simp [h2, h3])]
  · rw [if_neg h, if_neg]
    intro hc
    simp only [Bool.and_eq_true, decide_eq_true_eq] at hc
    obtain ⟨hr, hpl⟩ := hc
    generalize readP (l.drop 16) = M at *
    rw [← hpl, headD_plain hr] at hp hk he
    obtain ⟨q1, q2⟩ := preW_good hr k b hk hp
    rcases he with he | he
    · have := q2 he
      exact h ⟨q1, by rw [this]; exact hr, by rw [this]; exact hpl⟩
    · rw [q1] at he; cases he
end Go.Proofs.YtpcfkjeikhehaaaDoor

/- The document's field of whatever letter, told by FRel. -/
set_option linter.unusedSimpArgs false
set_option linter.unusedVariables false
set_option maxRecDepth 20000
namespace Go.Proofs.YtpcfkjeikhehaaaDoor
open Go.RowKit
theorem frel_bad {f : UInt8} {a b : Ms × List UInt8 × Bool} (h : FRel f a b) (hl : a.2.1.length ≤ 1000000) (ha : a.2.2 = false → a.1.es.length ≤ 1000000) : b.2.2 = false → b.1.es.length ≤ 1000000 := by
  unfold FRel at h
  split at h
  · subst h; intro hb; exact ha (rawD_bad hb)
  split at h
  · subst h; intro hb; exact ha (numD_bad (numD_bad hb).1).1
  split at h
  · subst h; intro hb; exact ha (numD_bad hb).1
  split at h
  · obtain ⟨k, h1, h2, rfl⟩ := h
    intro hb
    have := seqE_len (a.1.pt, (numD a.2.1 a.2.2).2) k
    have h4 := this.2 hb
    have h5 := numD_len a.2.1 a.2.2
    simp only at h4 ⊢
    omega
  split at h
  · subst h; intro hb; exact ha (numD_bad (rawD_bad hb)).1
  · subst h; intro hb; exact ha (numD_bad (rawD_bad hb)).1
/-- The field of whatever letter. -/
theorem tfield_any {A w : World} {Z p : Nat} {rest : List UInt8} {bad : Bool} (m : Ms) (ev mv dv : Value) (f : UInt8) (hf : f = 111 ∨ f = 112 ∨ f = 99 ∨ f = 101 ∨ f = 109 ∨ f = 100) (hm : MsO w Z (MV m ev mv dv) m) (h : Tk A w Z p rest bad) (he : f = 101 → ev = NIL) (hv : f = 109 → mv = NIL) :
    Calls Tryd.prog 52 #[PT p, MV m ev mv dv, .int .u8 (bn f)] w fun x w' => ∃ (b : Ms) (r : List UInt8) (bd : Bool) (ev' mv' dv' : Value), x = .returned (MV b ev' mv' dv') ∧ FRel f (m, rest, bad) (b, r, bd) ∧ (f ≠ 101 → ev' = ev) ∧ (f ≠ 109 → mv' = mv) ∧
      MsO w' Z (MV b ev' mv' dv') b ∧ Tk A w' Z p r bd ∧ Mt p p w w' := by
  obtain ⟨ev1, mv1, dv1, hq, o1, o2, o3⟩ := hm
  obtain ⟨rfl, rfl, rfl⟩ : ev = ev1 ∧ mv = mv1 ∧ dv = dv1 := by
    simp only [MV, Value.agg.injEq, Array.mk.injEq, List.cons.injEq, and_true, true_and] at hq
    exact hq
  obtain ⟨ea, ec, rfl, _⟩ := OwnE.form o1
  obtain ⟨ma, mc, rfl, _⟩ := own_form o2
  obtain ⟨da, dc, rfl, _⟩ := own_form o3
  have hp := h.hp.2
  have hz := h.hz
  rcases hf with rfl | rfl | rfl | rfl | rfl | rfl
  · refine (tfield_o m ea ma da ec mc dc _ _ _ h).mono ?_
    rintro e w' ⟨rfl, H, M⟩
    exact ⟨_, _, _, _, _, _, rfl, by unfold FRel; simp, fun _ => rfl, fun _ => rfl, ⟨_, _, _, rfl, o1.keep (M.keep hp), own_keep o2 (M.keep hp), own_keep o3 (M.keep hp)⟩, H, M⟩
  · refine (tfield_p m ea ma da ec mc dc _ _ _ h).mono ?_
    rintro e w' ⟨rfl, H, M⟩
    exact ⟨_, _, _, _, _, _, rfl, by unfold FRel; simp, fun _ => rfl, fun _ => rfl, ⟨_, _, _, rfl, o1.keep (M.keep hp), own_keep o2 (M.keep hp), own_keep o3 (M.keep hp)⟩, H, M⟩
  · refine (tfield_c m ea ma da ec mc dc _ _ _ h).mono ?_
    rintro e w' ⟨rfl, H, M⟩
    exact ⟨_, _, _, _, _, _, rfl, by unfold FRel; simp, fun _ => rfl, fun _ => rfl, ⟨_, _, _, rfl, o1.keep (M.keep hp), own_keep o2 (M.keep hp), own_keep o3 (M.keep hp)⟩, H, M⟩
  · rw [he rfl]
    refine (tfield_e m ma da mc dc _ _ h).mono ?_
    rintro e w' ⟨k, hk1, hk2, ⟨ev2, rfl, hO⟩, H, M⟩
    exact ⟨_, _, _, _, _, _, rfl, by unfold FRel; simp only [show ¬ ((101 : UInt8) = 111) by decide, show ¬ ((101 : UInt8) = 112) by decide, show ¬ ((101 : UInt8) = 99) by decide, if_true, if_false]; exact ⟨k, hk1, hk2, rfl⟩, fun q => absurd rfl q, fun _ => rfl, ⟨_, _, _, rfl, hO.low hz, own_keep o2 (M.keep hp), own_keep o3 (M.keep hp)⟩, H, M⟩
  · rw [hv rfl]
    refine (tfield_m m ea da ec dc _ _ h).mono ?_
    rintro e w' ⟨⟨mv2, rfl, hO⟩, H, M⟩
    exact ⟨_, _, _, _, _, _, rfl, by unfold FRel; simp, fun _ => rfl, fun q => absurd rfl q, ⟨_, _, _, rfl, o1.keep (M.keep hp), owns_low hO hz, own_keep o3 (M.keep hp)⟩, H, M⟩
  · refine (tfield_d m ea ma da ec mc dc _ _ _ h).mono ?_
    rintro e w' ⟨⟨dv2, rfl, hO⟩, H, M⟩
    exact ⟨_, _, _, _, _, _, rfl, by unfold FRel; simp, fun _ => rfl, fun _ => rfl, ⟨_, _, _, rfl, o1.keep (M.keep hp), own_keep o2 (M.keep hp), owns_low hO hz⟩, H, M⟩
end Go.Proofs.YtpcfkjeikhehaaaDoor
