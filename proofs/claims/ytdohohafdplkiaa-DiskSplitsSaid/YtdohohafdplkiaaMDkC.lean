import Derived.Test.YtdohohafdplkiaaMDkM
import Derived.Test.YtdohohafdplkiaaMDkA

/- Disks: power, a request's way. -/
set_option linter.unusedSimpArgs false
set_option linter.unusedVariables false
set_option maxRecDepth 20000
namespace Go.Proofs.Ytdohohafdplkiaa
open Go.RowKit
theorem post_mk' {W w' : World} {v v' : Value} (h : v' = v) (k : Ex W w') : Post W v (.returned v') w' := ⟨by rw [h], k⟩
theorem lit_any {w : World} {L : Loc} {d : Dk} (h : DkAt w L d) : Calls Try.prog 44 #[PT L.p] w (Post w (I (litD d))) := by
  obtain ⟨qv, h⟩ := h.out
  obtain ⟨⟨c0, c1, c2, c3, c4, c5⟩, hf, hz⟩ := h.cells
  clear h
  unfold litD
  cases hd : d.dark <;> rw [hd] at c4
  all_goals
    go_enter Try.func44, Try.ntmps44
    go_wp2
    go_ret
    exact post_mk' rfl (by (try show Ex _ _); repeat (first | (with_reducible exact ex_refl _) | (with_reducible assumption) | (with_reducible refine ex_drewL ?_) | (with_reducible refine ex_appR ?_ _) | (with_reducible refine ex_wx ?_ _) | (with_reducible refine ex_drew ?_) | (with_reducible refine ex_alloc ?_ _)))
theorem lit_nil (w : World) : Calls Try.prog 44 #[.pointer none] w (Post w (I 1)) := by
  go_enter Try.func44, Try.ntmps44
  go_wp2
  go_ret
  exact post_mk' rfl (by (try show Ex _ _); repeat (first | (with_reducible exact ex_refl _) | (with_reducible assumption) | (with_reducible refine ex_drewL ?_) | (with_reducible refine ex_appR ?_ _) | (with_reducible refine ex_wx ?_ _) | (with_reducible refine ex_drew ?_) | (with_reducible refine ex_alloc ?_ _)))
theorem down_any (x : Int) (h1 : -1 ≤ x) (h2 : x < 9223372036854775808) (w : World) : Calls Try.prog 58 #[I x] w (Post w (.tuple #[I (down x), .bool (decide (x = 0))])) := by
  by_cases hx : x = -1
  · subst hx
    go_enter Try.func58, Try.ntmps58
    go_wp2
    go_ret2
    exact post_mk' rfl (by (try show Ex _ _); repeat (first | (with_reducible exact ex_refl _) | (with_reducible assumption) | (with_reducible refine ex_drewL ?_) | (with_reducible refine ex_appR ?_ _) | (with_reducible refine ex_wx ?_ _) | (with_reducible refine ex_drew ?_) | (with_reducible refine ex_alloc ?_ _)))
  · have he : (x == -1) = false := beq_eq_false_iff_ne.2 hx
    have hw : wrap64 (x - 1) = x - 1 := by unfold wrap64; omega
    have hd : down x = x - 1 := by unfold down; rw [if_neg hx]
    rw [hd]
    go_enter Try.func58, Try.ntmps58
    go_wp2
    go_ret2
    refine post_mk' ?_ (by (try show Ex _ _); repeat (first | (with_reducible exact ex_refl _) | (with_reducible assumption) | (with_reducible refine ex_drewL ?_) | (with_reducible refine ex_appR ?_ _) | (with_reducible refine ex_wx ?_ _) | (with_reducible refine ex_drew ?_) | (with_reducible refine ex_alloc ?_ _)))
    by_cases h0 : x = 0 <;> simp [h0]
section
variable {w : World} {L : Loc} {d : Dk} {qv : Value}
theorem DkM.setDm (h : DkM w L d qv) {x : Int} (h1 : -1 ≤ x) (h2 : x < 9223372036854775808) : DkM (w.setCell ⟨L.p, 3, none⟩ (I x)) L { d with dm := x } qv :=
  h.turn (d' := { d with dm := x }) rfl rfl { h.ok with d1 := h1, d2 := h2 } rfl
theorem DkM.setAr (h : DkM w L d qv) {x : Int} (h1 : -1 ≤ x) (h2 : x < 9223372036854775808) : DkM (w.setCell ⟨L.p, 2, none⟩ (I x)) L { d with ar := x } qv :=
  h.turn (d' := { d with ar := x }) rfl rfl { h.ok with a1 := h1, a2 := h2 } rfl
theorem DkM.setDark (h : DkM w L d qv) (b : Bool) : DkM (w.setCell ⟨L.p, 4, none⟩ (.bool b)) L { d with dark := b } qv :=
  h.turn (d' := { d with dark := b }) rfl rfl { h.ok with } rfl
theorem DkM.setOps (h : DkM w L d qv) {n : Nat} (hn : n ≤ 1000000000) : DkM (w.setCell ⟨L.p, 5, none⟩ (I (n : Nat))) L { d with ops := n } qv :=
  h.turn (d' := { d with ops := n }) rfl rfl { h.ok with on := hn } rfl
theorem Dv.setP {L L' : Loc} {w w' : World} (h : Dv L w L' w') (o : Nat) (v : Value) : Dv L w L' (w'.setCell ⟨L'.p, o, none⟩ v) := h.set (Or.inl rfl) o v
end
theorem down_lo {x : Int} (h1 : -1 ≤ x) : -1 ≤ down x := by unfold down; split <;> omega
theorem down_hi {x : Int} (h1 : -1 ≤ x) (h2 : x < 9223372036854775808) : down x < 9223372036854775808 := by unfold down; split <;> omega
/-- What a request leads to. -/
def PostRq (w : World) (L : Loc) (d : Dk) (s : Int) (ch : Bool) (E : World → Prop) (e : Ending) (w' : World) : Prop :=
  ((reqD d s ch).2 ≠ 0 ∧ e = .returned (I (reqD d s ch).2) ∧ DkAt w' L (reqD d s ch).1 ∧ Dv L w L w') ∨
  ((reqD d s ch).2 = 0 ∧ e = .returned (I 0) ∧ ∃ W, E W ∧ w' = W.setCell ⟨L.p, 5, none⟩ (I ((d.ops : Int) + 1)))
set_option maxHeartbeats 1000000 in
theorem requestR_any {w : World} {L : Loc} {d : Dk} (h : DkAt w L d) (s : Int) (hs1 : -9223372036854775808 ≤ s) (hs2 : s < 9223372036854775808) (ch : Bool) (cap : Array Value) (E : World → Prop) (hops : d.ops < 1000000000)
    (HW : (reqD d s ch).2 = 0 → ∀ W, DkAt W L (reqD d s ch).1 → Dv L w L W → Calls Try.prog 46 cap W fun e W' => e = .returned (.tuple #[]) ∧ E W')
    (HE : ∀ W, E W → W.cell? ⟨L.p, 5, none⟩ = some (I (d.ops : Nat)) ∧ W.frozen? ⟨L.p, 5, none⟩ = false ∧ L.p < W.heap.size) :
    Calls Try.prog 45 #[PT L.p, I s, .bool ch, .func (.func 46) #[] cap] w (PostRq w L d s ch E) := by
  have HL := Lib.hid (fun W (k : Ex w W) => lit_any (h.ex k))
  obtain ⟨qv, hM⟩ := h.out
  obtain ⟨⟨c0, c1, c2, c3, c4, c5⟩, hf, hz⟩ := hM.cells
  have ok := hM.ok
  obtain ⟨n1, n2, qn, qr, a1, a2, d1, d2, on⟩ := ok
  have f2 := hf 2
  have f3 := hf 3
  have f4 := hf 4
  have f5 := hf 5
  replace hM := Lib.hid hM
  clear h hf qr
  unfold litD at HL
  by_cases hd : d.dark = true
  · have hr : reqD d s ch = (d, 9) := by unfold reqD; rw [if_pos hd]
    unfold PostRq
    rw [hr]
    simp only [hd, if_true] at HL
    clear HW HE hr
    go_enter Try.func45, Try.ntmps45
    go_wp2_with (go_at_call 44; (with_reducible refine (HL.out _ (by (try show Ex _ _); repeat (first | (with_reducible exact ex_refl _) | (with_reducible assumption) | (with_reducible refine ex_drewL ?_) | (with_reducible refine ex_appR ?_ _) | (with_reducible refine ex_wx ?_ _) | (with_reducible refine ex_drew ?_) | (with_reducible refine ex_alloc ?_ _)))).mono ?_); rintro e w2 ⟨rfl, X, rfl⟩)
    go_ret
    exact Or.inl ⟨by decide, rfl, ⟨_, hM.out.ex (by (try show Ex _ _); repeat (first | (with_reducible exact ex_refl _) | (with_reducible assumption) | (with_reducible refine ex_drewL ?_) | (with_reducible refine ex_appR ?_ _) | (with_reducible refine ex_wx ?_ _) | (with_reducible refine ex_drew ?_) | (with_reducible refine ex_alloc ?_ _)))⟩, Dv.ofEx (by (try show Ex _ _); repeat (first | (with_reducible exact ex_refl _) | (with_reducible assumption) | (with_reducible refine ex_drewL ?_) | (with_reducible refine ex_appR ?_ _) | (with_reducible refine ex_wx ?_ _) | (with_reducible refine ex_drew ?_) | (with_reducible refine ex_alloc ?_ _)))⟩
  simp only [hd, if_false] at HL
  have hdk : d.dark = false := by simpa using hd
  by_cases hin : 0 ≤ s ∧ s < d.has.length
  · have hin' := hin
    obtain ⟨i1, i2⟩ := hin
    have hu : IntKind.u64.wrap s = s := by rw [IntKind.wrap_u64]; omega
    have hul : IntKind.u64.wrap (d.has.length : Int) = (d.has.length : Int) := by rw [IntKind.wrap_u64]; omega
    have HD := Lib.hid (fun W => down_any d.dm d1 d2 W)
    have HA := Lib.hid (fun W => down_any d.ar a1 a2 W)
    have l1 := down_lo d1
    have l2 := down_hi d1 d2
    have l3 := down_lo a1
    have l4 := down_hi a1 a2
    by_cases hca : ch = true ∧ d.ar = 0
    · have hr : reqD d s ch = ({ d with dm := down d.dm, dark := true }, 9) := by unfold reqD; rw [if_neg hd, if_neg (by simpa using hin'), if_pos hca]
      unfold PostRq
      rw [hr]
      obtain ⟨rfl, har⟩ := hca
      rw [har] at c2
      clear HW HE hr HA
      generalize down d.dm = y at *
      go_enter Try.func45, Try.ntmps45
      go_wp2_with (first | (go_at_call 44; (with_reducible refine (HL.out _ (by (try show Ex _ _); repeat (first | (with_reducible exact ex_refl _) | (with_reducible assumption) | (with_reducible refine ex_drewL ?_) | (with_reducible refine ex_appR ?_ _) | (with_reducible refine ex_wx ?_ _) | (with_reducible refine ex_drew ?_) | (with_reducible refine ex_alloc ?_ _)))).mono ?_); rintro e w2 ⟨rfl, X, rfl⟩) | (go_at_call 58; (with_reducible refine (HD.out _).mono ?_); rintro e w3 ⟨rfl, X3, rfl⟩))
      go_ret
      exact Or.inl ⟨by decide, rfl, ⟨_, ((hM.out.setDm l1 l2).setDark true).ex (by (try show Ex _ _); repeat (first | (with_reducible exact ex_refl _) | (with_reducible assumption) | (with_reducible refine ex_drewL ?_) | (with_reducible refine ex_appR ?_ _) | (with_reducible refine ex_wx ?_ _) | (with_reducible refine ex_drew ?_) | (with_reducible refine ex_alloc ?_ _)))⟩, (((Dv.refl _ _).setP 3 _).setP 4 _).grow (by (try show Ex _ _); repeat (first | (with_reducible exact ex_refl _) | (with_reducible assumption) | (with_reducible refine ex_drewL ?_) | (with_reducible refine ex_appR ?_ _) | (with_reducible refine ex_wx ?_ _) | (with_reducible refine ex_drew ?_) | (with_reducible refine ex_alloc ?_ _)))⟩
    · have hr0 : reqD d s ch = if d.dm = 0 then ({ d with dm := down d.dm }, 8) else ({ d with dm := down d.dm, ar := if ch then down d.ar else d.ar }, 0) := by unfold reqD; rw [if_neg hd, if_neg (by simpa using hin'), if_neg hca]
      by_cases hm : d.dm = 0
      · have hr : reqD d s ch = ({ d with dm := down d.dm }, 8) := by rw [hr0, if_pos hm]
        have hmd : decide (d.dm = 0) = true := decide_eq_true hm
        rw [hmd] at HD
        unfold PostRq
        rw [hr]
        clear HW HE hr hr0 hmd hm
        generalize down d.dm = y at *
        cases ch with
        | true =>
          have har : (d.ar == 0) = false := beq_eq_false_iff_ne.2 fun h0 => hca ⟨rfl, h0⟩
          clear hca
          go_enter Try.func45, Try.ntmps45
          go_wp2_with (first | (go_at_call 44; (with_reducible refine (HL.out _ (by (try show Ex _ _); repeat (first | (with_reducible exact ex_refl _) | (with_reducible assumption) | (with_reducible refine ex_drewL ?_) | (with_reducible refine ex_appR ?_ _) | (with_reducible refine ex_wx ?_ _) | (with_reducible refine ex_drew ?_) | (with_reducible refine ex_alloc ?_ _)))).mono ?_); rintro e w2 ⟨rfl, X, rfl⟩) | (go_at_call 58; (with_reducible refine (HD.out _).mono ?_); rintro e w3 ⟨rfl, X3, rfl⟩))
          go_ret
          exact Or.inl ⟨by decide, rfl, ⟨_, (hM.out.setDm l1 l2).ex (by (try show Ex _ _); repeat (first | (with_reducible exact ex_refl _) | (with_reducible assumption) | (with_reducible refine ex_drewL ?_) | (with_reducible refine ex_appR ?_ _) | (with_reducible refine ex_wx ?_ _) | (with_reducible refine ex_drew ?_) | (with_reducible refine ex_alloc ?_ _)))⟩, ((Dv.refl _ _).setP 3 _).grow (by (try show Ex _ _); repeat (first | (with_reducible exact ex_refl _) | (with_reducible assumption) | (with_reducible refine ex_drewL ?_) | (with_reducible refine ex_appR ?_ _) | (with_reducible refine ex_wx ?_ _) | (with_reducible refine ex_drew ?_) | (with_reducible refine ex_alloc ?_ _)))⟩
        | false =>
          clear hca
          go_enter Try.func45, Try.ntmps45
          go_wp2_with (first | (go_at_call 44; (with_reducible refine (HL.out _ (by (try show Ex _ _); repeat (first | (with_reducible exact ex_refl _) | (with_reducible assumption) | (with_reducible refine ex_drewL ?_) | (with_reducible refine ex_appR ?_ _) | (with_reducible refine ex_wx ?_ _) | (with_reducible refine ex_drew ?_) | (with_reducible refine ex_alloc ?_ _)))).mono ?_); rintro e w2 ⟨rfl, X, rfl⟩) | (go_at_call 58; (with_reducible refine (HD.out _).mono ?_); rintro e w3 ⟨rfl, X3, rfl⟩))
          go_ret
          exact Or.inl ⟨by decide, rfl, ⟨_, (hM.out.setDm l1 l2).ex (by (try show Ex _ _); repeat (first | (with_reducible exact ex_refl _) | (with_reducible assumption) | (with_reducible refine ex_drewL ?_) | (with_reducible refine ex_appR ?_ _) | (with_reducible refine ex_wx ?_ _) | (with_reducible refine ex_drew ?_) | (with_reducible refine ex_alloc ?_ _)))⟩, ((Dv.refl _ _).setP 3 _).grow (by (try show Ex _ _); repeat (first | (with_reducible exact ex_refl _) | (with_reducible assumption) | (with_reducible refine ex_drewL ?_) | (with_reducible refine ex_appR ?_ _) | (with_reducible refine ex_wx ?_ _) | (with_reducible refine ex_drew ?_) | (with_reducible refine ex_alloc ?_ _)))⟩
      · have hr : reqD d s ch = ({ d with dm := down d.dm, ar := if ch then down d.ar else d.ar }, 0) := by rw [hr0, if_neg hm]
        have hmd : decide (d.dm = 0) = false := decide_eq_false hm
        rw [hmd] at HD
        unfold PostRq
        rw [hr] at HW ⊢
        have HW := Lib.hid (HW rfl)
        have HE := Lib.hid HE
        clear hr hr0 hmd hm
        generalize down d.dm = y at *
        cases ch with
        | true =>
          have har : (d.ar == 0) = false := beq_eq_false_iff_ne.2 fun h0 => hca ⟨rfl, h0⟩
          clear hca
          simp only [if_true] at HW
          generalize down d.ar = z at *
          have HW2 := Lib.hid (fun (X : More) => HW.out (wx ((w.setCell ⟨L.p, 3, none⟩ (I y)).setCell ⟨L.p, 2, none⟩ (I z)) X) ⟨_, ((hM.out.setDm l1 l2).setAr l3 l4).ex ⟨X, rfl⟩⟩ ((((Dv.refl _ _).setP 3 _).setP 2 _).grow ⟨X, rfl⟩))
          go_enter Try.func45, Try.ntmps45
          go_wp2_with (first | (go_at_call 44; (with_reducible refine (HL.out _ (by (try show Ex _ _); repeat (first | (with_reducible exact ex_refl _) | (with_reducible assumption) | (with_reducible refine ex_drewL ?_) | (with_reducible refine ex_appR ?_ _) | (with_reducible refine ex_wx ?_ _) | (with_reducible refine ex_drew ?_) | (with_reducible refine ex_alloc ?_ _)))).mono ?_); rintro e w2 ⟨rfl, X, rfl⟩) | (go_at_call 58; (with_reducible refine (HD.out _).mono ?_); clear HD; rintro e w3 ⟨rfl, X3, rfl⟩) | (go_at_call 58; (with_reducible refine (HA.out _).mono ?_); clear HA; rintro e w4 ⟨rfl, X4, rfl⟩) | (go_at_call 46; (with_reducible refine (HW2.out _).mono ?_); rintro e w5 ⟨rfl, hE⟩; obtain ⟨k5, g5, z5⟩ := HE.out w5 hE; replace hE := Lib.hid hE))
          go_ret
          exact ⟨rfl, _, hE.out, rfl⟩
        | false =>
          clear hca
          simp only [Bool.false_eq_true, if_false] at HW
          have HW2 := Lib.hid (fun (X : More) => HW.out (wx (w.setCell ⟨L.p, 3, none⟩ (I y)) X) ⟨_, (hM.out.setDm l1 l2).ex ⟨X, rfl⟩⟩ (((Dv.refl _ _).setP 3 _).grow ⟨X, rfl⟩))
          go_enter Try.func45, Try.ntmps45
          go_wp2_with (first | (go_at_call 44; (with_reducible refine (HL.out _ (by (try show Ex _ _); repeat (first | (with_reducible exact ex_refl _) | (with_reducible assumption) | (with_reducible refine ex_drewL ?_) | (with_reducible refine ex_appR ?_ _) | (with_reducible refine ex_wx ?_ _) | (with_reducible refine ex_drew ?_) | (with_reducible refine ex_alloc ?_ _)))).mono ?_); rintro e w2 ⟨rfl, X, rfl⟩) | (go_at_call 58; (with_reducible refine (HD.out _).mono ?_); clear HD; rintro e w3 ⟨rfl, X3, rfl⟩) | (go_at_call 46; (with_reducible refine (HW2.out _).mono ?_); rintro e w5 ⟨rfl, hE⟩; obtain ⟨k5, g5, z5⟩ := HE.out w5 hE; replace hE := Lib.hid hE))
          go_ret
          exact ⟨rfl, _, hE.out, rfl⟩
  · have hr : reqD d s ch = (d, 2) := by unfold reqD; rw [if_neg hd, if_pos (by simpa using hin)]
    unfold PostRq
    rw [hr]
    clear HW HE hr
    have hul : IntKind.u64.wrap (d.has.length : Int) = (d.has.length : Int) := by rw [IntKind.wrap_u64]; omega
    obtain ⟨u, hu, hge⟩ : ∃ u, IntKind.u64.wrap s = u ∧ (d.has.length : Int) ≤ u := ⟨_, rfl, by rw [IntKind.wrap_u64]; omega⟩
    go_enter Try.func45, Try.ntmps45
    go_wp2_with (go_at_call 44; (with_reducible refine (HL.out _ (by (try show Ex _ _); repeat (first | (with_reducible exact ex_refl _) | (with_reducible assumption) | (with_reducible refine ex_drewL ?_) | (with_reducible refine ex_appR ?_ _) | (with_reducible refine ex_wx ?_ _) | (with_reducible refine ex_drew ?_) | (with_reducible refine ex_alloc ?_ _)))).mono ?_); rintro e w2 ⟨rfl, X, rfl⟩)
    go_ret
    exact Or.inl ⟨by decide, rfl, ⟨_, hM.out.ex (by (try show Ex _ _); repeat (first | (with_reducible exact ex_refl _) | (with_reducible assumption) | (with_reducible refine ex_drewL ?_) | (with_reducible refine ex_appR ?_ _) | (with_reducible refine ex_wx ?_ _) | (with_reducible refine ex_drew ?_) | (with_reducible refine ex_alloc ?_ _)))⟩, Dv.ofEx (by (try show Ex _ _); repeat (first | (with_reducible exact ex_refl _) | (with_reducible assumption) | (with_reducible refine ex_drewL ?_) | (with_reducible refine ex_appR ?_ _) | (with_reducible refine ex_wx ?_ _) | (with_reducible refine ex_drew ?_) | (with_reducible refine ex_alloc ?_ _)))⟩
set_option maxHeartbeats 1000000 in
theorem requestW_any {w : World} {L : Loc} {d : Dk} (h : DkAt w L d) (s : Int) (hs1 : -9223372036854775808 ≤ s) (hs2 : s < 9223372036854775808) (ch : Bool) (cap : Array Value) (E : World → Prop) (hops : d.ops < 1000000000)
    (HW : (reqD d s ch).2 = 0 → ∀ W, DkAt W L (reqD d s ch).1 → Dv L w L W → Calls Try.prog 48 cap W fun e W' => e = .returned (.tuple #[]) ∧ E W')
    (HE : ∀ W, E W → W.cell? ⟨L.p, 5, none⟩ = some (I (d.ops : Nat)) ∧ W.frozen? ⟨L.p, 5, none⟩ = false ∧ L.p < W.heap.size) :
    Calls Try.prog 45 #[PT L.p, I s, .bool ch, .func (.func 48) #[] cap] w (PostRq w L d s ch E) := by
  have HL := Lib.hid (fun W (k : Ex w W) => lit_any (h.ex k))
  obtain ⟨qv, hM⟩ := h.out
  obtain ⟨⟨c0, c1, c2, c3, c4, c5⟩, hf, hz⟩ := hM.cells
  have ok := hM.ok
  obtain ⟨n1, n2, qn, qr, a1, a2, d1, d2, on⟩ := ok
  have f2 := hf 2
  have f3 := hf 3
  have f4 := hf 4
  have f5 := hf 5
  replace hM := Lib.hid hM
  clear h hf qr
  unfold litD at HL
  by_cases hd : d.dark = true
  · have hr : reqD d s ch = (d, 9) := by unfold reqD; rw [if_pos hd]
    unfold PostRq
    rw [hr]
    simp only [hd, if_true] at HL
    clear HW HE hr
    go_enter Try.func45, Try.ntmps45
    go_wp2_with (go_at_call 44; (with_reducible refine (HL.out _ (by (try show Ex _ _); repeat (first | (with_reducible exact ex_refl _) | (with_reducible assumption) | (with_reducible refine ex_drewL ?_) | (with_reducible refine ex_appR ?_ _) | (with_reducible refine ex_wx ?_ _) | (with_reducible refine ex_drew ?_) | (with_reducible refine ex_alloc ?_ _)))).mono ?_); rintro e w2 ⟨rfl, X, rfl⟩)
    go_ret
    exact Or.inl ⟨by decide, rfl, ⟨_, hM.out.ex (by (try show Ex _ _); repeat (first | (with_reducible exact ex_refl _) | (with_reducible assumption) | (with_reducible refine ex_drewL ?_) | (with_reducible refine ex_appR ?_ _) | (with_reducible refine ex_wx ?_ _) | (with_reducible refine ex_drew ?_) | (with_reducible refine ex_alloc ?_ _)))⟩, Dv.ofEx (by (try show Ex _ _); repeat (first | (with_reducible exact ex_refl _) | (with_reducible assumption) | (with_reducible refine ex_drewL ?_) | (with_reducible refine ex_appR ?_ _) | (with_reducible refine ex_wx ?_ _) | (with_reducible refine ex_drew ?_) | (with_reducible refine ex_alloc ?_ _)))⟩
  simp only [hd, if_false] at HL
  have hdk : d.dark = false := by simpa using hd
  by_cases hin : 0 ≤ s ∧ s < d.has.length
  · have hin' := hin
    obtain ⟨i1, i2⟩ := hin
    have hu : IntKind.u64.wrap s = s := by rw [IntKind.wrap_u64]; omega
    have hul : IntKind.u64.wrap (d.has.length : Int) = (d.has.length : Int) := by rw [IntKind.wrap_u64]; omega
    have HD := Lib.hid (fun W => down_any d.dm d1 d2 W)
    have HA := Lib.hid (fun W => down_any d.ar a1 a2 W)
    have l1 := down_lo d1
    have l2 := down_hi d1 d2
    have l3 := down_lo a1
    have l4 := down_hi a1 a2
    by_cases hca : ch = true ∧ d.ar = 0
    · have hr : reqD d s ch = ({ d with dm := down d.dm, dark := true }, 9) := by unfold reqD; rw [if_neg hd, if_neg (by simpa using hin'), if_pos hca]
      unfold PostRq
      rw [hr]
      obtain ⟨rfl, har⟩ := hca
      rw [har] at c2
      clear HW HE hr HA
      generalize down d.dm = y at *
      go_enter Try.func45, Try.ntmps45
      go_wp2_with (first | (go_at_call 44; (with_reducible refine (HL.out _ (by (try show Ex _ _); repeat (first | (with_reducible exact ex_refl _) | (with_reducible assumption) | (with_reducible refine ex_drewL ?_) | (with_reducible refine ex_appR ?_ _) | (with_reducible refine ex_wx ?_ _) | (with_reducible refine ex_drew ?_) | (with_reducible refine ex_alloc ?_ _)))).mono ?_); rintro e w2 ⟨rfl, X, rfl⟩) | (go_at_call 58; (with_reducible refine (HD.out _).mono ?_); rintro e w3 ⟨rfl, X3, rfl⟩))
      go_ret
      exact Or.inl ⟨by decide, rfl, ⟨_, ((hM.out.setDm l1 l2).setDark true).ex (by (try show Ex _ _); repeat (first | (with_reducible exact ex_refl _) | (with_reducible assumption) | (with_reducible refine ex_drewL ?_) | (with_reducible refine ex_appR ?_ _) | (with_reducible refine ex_wx ?_ _) | (with_reducible refine ex_drew ?_) | (with_reducible refine ex_alloc ?_ _)))⟩, (((Dv.refl _ _).setP 3 _).setP 4 _).grow (by (try show Ex _ _); repeat (first | (with_reducible exact ex_refl _) | (with_reducible assumption) | (with_reducible refine ex_drewL ?_) | (with_reducible refine ex_appR ?_ _) | (with_reducible refine ex_wx ?_ _) | (with_reducible refine ex_drew ?_) | (with_reducible refine ex_alloc ?_ _)))⟩
    · have hr0 : reqD d s ch = if d.dm = 0 then ({ d with dm := down d.dm }, 8) else ({ d with dm := down d.dm, ar := if ch then down d.ar else d.ar }, 0) := by unfold reqD; rw [if_neg hd, if_neg (by simpa using hin'), if_neg hca]
      by_cases hm : d.dm = 0
      · have hr : reqD d s ch = ({ d with dm := down d.dm }, 8) := by rw [hr0, if_pos hm]
        have hmd : decide (d.dm = 0) = true := decide_eq_true hm
        rw [hmd] at HD
        unfold PostRq
        rw [hr]
        clear HW HE hr hr0 hmd hm
        generalize down d.dm = y at *
        cases ch with
        | true =>
          have har : (d.ar == 0) = false := beq_eq_false_iff_ne.2 fun h0 => hca ⟨rfl, h0⟩
          clear hca
          go_enter Try.func45, Try.ntmps45
          go_wp2_with (first | (go_at_call 44; (with_reducible refine (HL.out _ (by (try show Ex _ _); repeat (first | (with_reducible exact ex_refl _) | (with_reducible assumption) | (with_reducible refine ex_drewL ?_) | (with_reducible refine ex_appR ?_ _) | (with_reducible refine ex_wx ?_ _) | (with_reducible refine ex_drew ?_) | (with_reducible refine ex_alloc ?_ _)))).mono ?_); rintro e w2 ⟨rfl, X, rfl⟩) | (go_at_call 58; (with_reducible refine (HD.out _).mono ?_); rintro e w3 ⟨rfl, X3, rfl⟩))
          go_ret
          exact Or.inl ⟨by decide, rfl, ⟨_, (hM.out.setDm l1 l2).ex (by (try show Ex _ _); repeat (first | (with_reducible exact ex_refl _) | (with_reducible assumption) | (with_reducible refine ex_drewL ?_) | (with_reducible refine ex_appR ?_ _) | (with_reducible refine ex_wx ?_ _) | (with_reducible refine ex_drew ?_) | (with_reducible refine ex_alloc ?_ _)))⟩, ((Dv.refl _ _).setP 3 _).grow (by (try show Ex _ _); repeat (first | (with_reducible exact ex_refl _) | (with_reducible assumption) | (with_reducible refine ex_drewL ?_) | (with_reducible refine ex_appR ?_ _) | (with_reducible refine ex_wx ?_ _) | (with_reducible refine ex_drew ?_) | (with_reducible refine ex_alloc ?_ _)))⟩
        | false =>
          clear hca
          go_enter Try.func45, Try.ntmps45
          go_wp2_with (first | (go_at_call 44; (with_reducible refine (HL.out _ (by (try show Ex _ _); repeat (first | (with_reducible exact ex_refl _) | (with_reducible assumption) | (with_reducible refine ex_drewL ?_) | (with_reducible refine ex_appR ?_ _) | (with_reducible refine ex_wx ?_ _) | (with_reducible refine ex_drew ?_) | (with_reducible refine ex_alloc ?_ _)))).mono ?_); rintro e w2 ⟨rfl, X, rfl⟩) | (go_at_call 58; (with_reducible refine (HD.out _).mono ?_); rintro e w3 ⟨rfl, X3, rfl⟩))
          go_ret
          exact Or.inl ⟨by decide, rfl, ⟨_, (hM.out.setDm l1 l2).ex (by (try show Ex _ _); repeat (first | (with_reducible exact ex_refl _) | (with_reducible assumption) | (with_reducible refine ex_drewL ?_) | (with_reducible refine ex_appR ?_ _) | (with_reducible refine ex_wx ?_ _) | (with_reducible refine ex_drew ?_) | (with_reducible refine ex_alloc ?_ _)))⟩, ((Dv.refl _ _).setP 3 _).grow (by (try show Ex _ _); repeat (first | (with_reducible exact ex_refl _) | (with_reducible assumption) | (with_reducible refine ex_drewL ?_) | (with_reducible refine ex_appR ?_ _) | (with_reducible refine ex_wx ?_ _) | (with_reducible refine ex_drew ?_) | (with_reducible refine ex_alloc ?_ _)))⟩
      · have hr : reqD d s ch = ({ d with dm := down d.dm, ar := if ch then down d.ar else d.ar }, 0) := by rw [hr0, if_neg hm]
        have hmd : decide (d.dm = 0) = false := decide_eq_false hm
        rw [hmd] at HD
        unfold PostRq
        rw [hr] at HW ⊢
        have HW := Lib.hid (HW rfl)
        have HE := Lib.hid HE
        clear hr hr0 hmd hm
        generalize down d.dm = y at *
        cases ch with
        | true =>
          have har : (d.ar == 0) = false := beq_eq_false_iff_ne.2 fun h0 => hca ⟨rfl, h0⟩
          clear hca
          simp only [if_true] at HW
          generalize down d.ar = z at *
          have HW2 := Lib.hid (fun (X : More) => HW.out (wx ((w.setCell ⟨L.p, 3, none⟩ (I y)).setCell ⟨L.p, 2, none⟩ (I z)) X) ⟨_, ((hM.out.setDm l1 l2).setAr l3 l4).ex ⟨X, rfl⟩⟩ ((((Dv.refl _ _).setP 3 _).setP 2 _).grow ⟨X, rfl⟩))
          go_enter Try.func45, Try.ntmps45
          go_wp2_with (first | (go_at_call 44; (with_reducible refine (HL.out _ (by (try show Ex _ _); repeat (first | (with_reducible exact ex_refl _) | (with_reducible assumption) | (with_reducible refine ex_drewL ?_) | (with_reducible refine ex_appR ?_ _) | (with_reducible refine ex_wx ?_ _) | (with_reducible refine ex_drew ?_) | (with_reducible refine ex_alloc ?_ _)))).mono ?_); rintro e w2 ⟨rfl, X, rfl⟩) | (go_at_call 58; (with_reducible refine (HD.out _).mono ?_); clear HD; rintro e w3 ⟨rfl, X3, rfl⟩) | (go_at_call 58; (with_reducible refine (HA.out _).mono ?_); clear HA; rintro e w4 ⟨rfl, X4, rfl⟩) | (go_at_call 48; (with_reducible refine (HW2.out _).mono ?_); rintro e w5 ⟨rfl, hE⟩; obtain ⟨k5, g5, z5⟩ := HE.out w5 hE; replace hE := Lib.hid hE))
          go_ret
          exact ⟨rfl, _, hE.out, rfl⟩
        | false =>
          clear hca
          simp only [Bool.false_eq_true, if_false] at HW
          have HW2 := Lib.hid (fun (X : More) => HW.out (wx (w.setCell ⟨L.p, 3, none⟩ (I y)) X) ⟨_, (hM.out.setDm l1 l2).ex ⟨X, rfl⟩⟩ (((Dv.refl _ _).setP 3 _).grow ⟨X, rfl⟩))
          go_enter Try.func45, Try.ntmps45
          go_wp2_with (first | (go_at_call 44; (with_reducible refine (HL.out _ (by (try show Ex _ _); repeat (first | (with_reducible exact ex_refl _) | (with_reducible assumption) | (with_reducible refine ex_drewL ?_) | (with_reducible refine ex_appR ?_ _) | (with_reducible refine ex_wx ?_ _) | (with_reducible refine ex_drew ?_) | (with_reducible refine ex_alloc ?_ _)))).mono ?_); rintro e w2 ⟨rfl, X, rfl⟩) | (go_at_call 58; (with_reducible refine (HD.out _).mono ?_); clear HD; rintro e w3 ⟨rfl, X3, rfl⟩) | (go_at_call 48; (with_reducible refine (HW2.out _).mono ?_); rintro e w5 ⟨rfl, hE⟩; obtain ⟨k5, g5, z5⟩ := HE.out w5 hE; replace hE := Lib.hid hE))
          go_ret
          exact ⟨rfl, _, hE.out, rfl⟩
  · have hr : reqD d s ch = (d, 2) := by unfold reqD; rw [if_neg hd, if_pos (by simpa using hin)]
    unfold PostRq
    rw [hr]
    clear HW HE hr
    have hul : IntKind.u64.wrap (d.has.length : Int) = (d.has.length : Int) := by rw [IntKind.wrap_u64]; omega
    obtain ⟨u, hu, hge⟩ : ∃ u, IntKind.u64.wrap s = u ∧ (d.has.length : Int) ≤ u := ⟨_, rfl, by rw [IntKind.wrap_u64]; omega⟩
    go_enter Try.func45, Try.ntmps45
    go_wp2_with (go_at_call 44; (with_reducible refine (HL.out _ (by (try show Ex _ _); repeat (first | (with_reducible exact ex_refl _) | (with_reducible assumption) | (with_reducible refine ex_drewL ?_) | (with_reducible refine ex_appR ?_ _) | (with_reducible refine ex_wx ?_ _) | (with_reducible refine ex_drew ?_) | (with_reducible refine ex_alloc ?_ _)))).mono ?_); rintro e w2 ⟨rfl, X, rfl⟩)
    go_ret
    exact Or.inl ⟨by decide, rfl, ⟨_, hM.out.ex (by (try show Ex _ _); repeat (first | (with_reducible exact ex_refl _) | (with_reducible assumption) | (with_reducible refine ex_drewL ?_) | (with_reducible refine ex_appR ?_ _) | (with_reducible refine ex_wx ?_ _) | (with_reducible refine ex_drew ?_) | (with_reducible refine ex_alloc ?_ _)))⟩, Dv.ofEx (by (try show Ex _ _); repeat (first | (with_reducible exact ex_refl _) | (with_reducible assumption) | (with_reducible refine ex_drewL ?_) | (with_reducible refine ex_appR ?_ _) | (with_reducible refine ex_wx ?_ _) | (with_reducible refine ex_drew ?_) | (with_reducible refine ex_alloc ?_ _)))⟩
set_option maxHeartbeats 1000000 in
theorem requestS_any {w : World} {L : Loc} {d : Dk} (h : DkAt w L d) (s : Int) (hs1 : -9223372036854775808 ≤ s) (hs2 : s < 9223372036854775808) (ch : Bool) (cap : Array Value) (E : World → Prop) (hops : d.ops < 1000000000)
    (HW : (reqD d s ch).2 = 0 → ∀ W, DkAt W L (reqD d s ch).1 → Dv L w L W → Calls Try.prog 49 cap W fun e W' => e = .returned (.tuple #[]) ∧ E W')
    (HE : ∀ W, E W → W.cell? ⟨L.p, 5, none⟩ = some (I (d.ops : Nat)) ∧ W.frozen? ⟨L.p, 5, none⟩ = false ∧ L.p < W.heap.size) :
    Calls Try.prog 45 #[PT L.p, I s, .bool ch, .func (.func 49) #[] cap] w (PostRq w L d s ch E) := by
  have HL := Lib.hid (fun W (k : Ex w W) => lit_any (h.ex k))
  obtain ⟨qv, hM⟩ := h.out
  obtain ⟨⟨c0, c1, c2, c3, c4, c5⟩, hf, hz⟩ := hM.cells
  have ok := hM.ok
  obtain ⟨n1, n2, qn, qr, a1, a2, d1, d2, on⟩ := ok
  have f2 := hf 2
  have f3 := hf 3
  have f4 := hf 4
  have f5 := hf 5
  replace hM := Lib.hid hM
  clear h hf qr
  unfold litD at HL
  by_cases hd : d.dark = true
  · have hr : reqD d s ch = (d, 9) := by unfold reqD; rw [if_pos hd]
    unfold PostRq
    rw [hr]
    simp only [hd, if_true] at HL
    clear HW HE hr
    go_enter Try.func45, Try.ntmps45
    go_wp2_with (go_at_call 44; (with_reducible refine (HL.out _ (by (try show Ex _ _); repeat (first | (with_reducible exact ex_refl _) | (with_reducible assumption) | (with_reducible refine ex_drewL ?_) | (with_reducible refine ex_appR ?_ _) | (with_reducible refine ex_wx ?_ _) | (with_reducible refine ex_drew ?_) | (with_reducible refine ex_alloc ?_ _)))).mono ?_); rintro e w2 ⟨rfl, X, rfl⟩)
    go_ret
    exact Or.inl ⟨by decide, rfl, ⟨_, hM.out.ex (by (try show Ex _ _); repeat (first | (with_reducible exact ex_refl _) | (with_reducible assumption) | (with_reducible refine ex_drewL ?_) | (with_reducible refine ex_appR ?_ _) | (with_reducible refine ex_wx ?_ _) | (with_reducible refine ex_drew ?_) | (with_reducible refine ex_alloc ?_ _)))⟩, Dv.ofEx (by (try show Ex _ _); repeat (first | (with_reducible exact ex_refl _) | (with_reducible assumption) | (with_reducible refine ex_drewL ?_) | (with_reducible refine ex_appR ?_ _) | (with_reducible refine ex_wx ?_ _) | (with_reducible refine ex_drew ?_) | (with_reducible refine ex_alloc ?_ _)))⟩
  simp only [hd, if_false] at HL
  have hdk : d.dark = false := by simpa using hd
  by_cases hin : 0 ≤ s ∧ s < d.has.length
  · have hin' := hin
    obtain ⟨i1, i2⟩ := hin
    have hu : IntKind.u64.wrap s = s := by rw [IntKind.wrap_u64]; omega
    have hul : IntKind.u64.wrap (d.has.length : Int) = (d.has.length : Int) := by rw [IntKind.wrap_u64]; omega
    have HD := Lib.hid (fun W => down_any d.dm d1 d2 W)
    have HA := Lib.hid (fun W => down_any d.ar a1 a2 W)
    have l1 := down_lo d1
    have l2 := down_hi d1 d2
    have l3 := down_lo a1
    have l4 := down_hi a1 a2
    by_cases hca : ch = true ∧ d.ar = 0
    · have hr : reqD d s ch = ({ d with dm := down d.dm, dark := true }, 9) := by unfold reqD; rw [if_neg hd, if_neg (by simpa using hin'), if_pos hca]
      unfold PostRq
      rw [hr]
      obtain ⟨rfl, har⟩ := hca
      rw [har] at c2
      clear HW HE hr HA
      generalize down d.dm = y at *
      go_enter Try.func45, Try.ntmps45
      go_wp2_with (first | (go_at_call 44; (with_reducible refine (HL.out _ (by (try show Ex _ _); repeat (first | (with_reducible exact ex_refl _) | (with_reducible assumption) | (with_reducible refine ex_drewL ?_) | (with_reducible refine ex_appR ?_ _) | (with_reducible refine ex_wx ?_ _) | (with_reducible refine ex_drew ?_) | (with_reducible refine ex_alloc ?_ _)))).mono ?_); rintro e w2 ⟨rfl, X, rfl⟩) | (go_at_call 58; (with_reducible refine (HD.out _).mono ?_); rintro e w3 ⟨rfl, X3, rfl⟩))
      go_ret
      exact Or.inl ⟨by decide, rfl, ⟨_, ((hM.out.setDm l1 l2).setDark true).ex (by (try show Ex _ _); repeat (first | (with_reducible exact ex_refl _) | (with_reducible assumption) | (with_reducible refine ex_drewL ?_) | (with_reducible refine ex_appR ?_ _) | (with_reducible refine ex_wx ?_ _) | (with_reducible refine ex_drew ?_) | (with_reducible refine ex_alloc ?_ _)))⟩, (((Dv.refl _ _).setP 3 _).setP 4 _).grow (by (try show Ex _ _); repeat (first | (with_reducible exact ex_refl _) | (with_reducible assumption) | (with_reducible refine ex_drewL ?_) | (with_reducible refine ex_appR ?_ _) | (with_reducible refine ex_wx ?_ _) | (with_reducible refine ex_drew ?_) | (with_reducible refine ex_alloc ?_ _)))⟩
    · have hr0 : reqD d s ch = if d.dm = 0 then ({ d with dm := down d.dm }, 8) else ({ d with dm := down d.dm, ar := if ch then down d.ar else d.ar }, 0) := by unfold reqD; rw [if_neg hd, if_neg (by simpa using hin'), if_neg hca]
      by_cases hm : d.dm = 0
      · have hr : reqD d s ch = ({ d with dm := down d.dm }, 8) := by rw [hr0, if_pos hm]
        have hmd : decide (d.dm = 0) = true := decide_eq_true hm
        rw [hmd] at HD
        unfold PostRq
        rw [hr]
        clear HW HE hr hr0 hmd hm
        generalize down d.dm = y at *
        cases ch with
        | true =>
          have har : (d.ar == 0) = false := beq_eq_false_iff_ne.2 fun h0 => hca ⟨rfl, h0⟩
          clear hca
          go_enter Try.func45, Try.ntmps45
          go_wp2_with (first | (go_at_call 44; (with_reducible refine (HL.out _ (by (try show Ex _ _); repeat (first | (with_reducible exact ex_refl _) | (with_reducible assumption) | (with_reducible refine ex_drewL ?_) | (with_reducible refine ex_appR ?_ _) | (with_reducible refine ex_wx ?_ _) | (with_reducible refine ex_drew ?_) | (with_reducible refine ex_alloc ?_ _)))).mono ?_); rintro e w2 ⟨rfl, X, rfl⟩) | (go_at_call 58; (with_reducible refine (HD.out _).mono ?_); rintro e w3 ⟨rfl, X3, rfl⟩))
          go_ret
          exact Or.inl ⟨by decide, rfl, ⟨_, (hM.out.setDm l1 l2).ex (by (try show Ex _ _); repeat (first | (with_reducible exact ex_refl _) | (with_reducible assumption) | (with_reducible refine ex_drewL ?_) | (with_reducible refine ex_appR ?_ _) | (with_reducible refine ex_wx ?_ _) | (with_reducible refine ex_drew ?_) | (with_reducible refine ex_alloc ?_ _)))⟩, ((Dv.refl _ _).setP 3 _).grow (by (try show Ex _ _); repeat (first | (with_reducible exact ex_refl _) | (with_reducible assumption) | (with_reducible refine ex_drewL ?_) | (with_reducible refine ex_appR ?_ _) | (with_reducible refine ex_wx ?_ _) | (with_reducible refine ex_drew ?_) | (with_reducible refine ex_alloc ?_ _)))⟩
        | false =>
          clear hca
          go_enter Try.func45, Try.ntmps45
          go_wp2_with (first | (go_at_call 44; (with_reducible refine (HL.out _ (by (try show Ex _ _); repeat (first | (with_reducible exact ex_refl _) | (with_reducible assumption) | (with_reducible refine ex_drewL ?_) | (with_reducible refine ex_appR ?_ _) | (with_reducible refine ex_wx ?_ _) | (with_reducible refine ex_drew ?_) | (with_reducible refine ex_alloc ?_ _)))).mono ?_); rintro e w2 ⟨rfl, X, rfl⟩) | (go_at_call 58; (with_reducible refine (HD.out _).mono ?_); rintro e w3 ⟨rfl, X3, rfl⟩))
          go_ret
          exact Or.inl ⟨by decide, rfl, ⟨_, (hM.out.setDm l1 l2).ex (by (try show Ex _ _); repeat (first | (with_reducible exact ex_refl _) | (with_reducible assumption) | (with_reducible refine ex_drewL ?_) | (with_reducible refine ex_appR ?_ _) | (with_reducible refine ex_wx ?_ _) | (with_reducible refine ex_drew ?_) | (with_reducible refine ex_alloc ?_ _)))⟩, ((Dv.refl _ _).setP 3 _).grow (by (try show Ex _ _); repeat (first | (with_reducible exact ex_refl _) | (with_reducible assumption) | (with_reducible refine ex_drewL ?_) | (with_reducible refine ex_appR ?_ _) | (with_reducible refine ex_wx ?_ _) | (with_reducible refine ex_drew ?_) | (with_reducible refine ex_alloc ?_ _)))⟩
      · have hr : reqD d s ch = ({ d with dm := down d.dm, ar := if ch then down d.ar else d.ar }, 0) := by rw [hr0, if_neg hm]
        have hmd : decide (d.dm = 0) = false := decide_eq_false hm
        rw [hmd] at HD
        unfold PostRq
        rw [hr] at HW ⊢
        have HW := Lib.hid (HW rfl)
        have HE := Lib.hid HE
        clear hr hr0 hmd hm
        generalize down d.dm = y at *
        cases ch with
        | true =>
          have har : (d.ar == 0) = false := beq_eq_false_iff_ne.2 fun h0 => hca ⟨rfl, h0⟩
          clear hca
          simp only [if_true] at HW
          generalize down d.ar = z at *
          have HW2 := Lib.hid (fun (X : More) => HW.out (wx ((w.setCell ⟨L.p, 3, none⟩ (I y)).setCell ⟨L.p, 2, none⟩ (I z)) X) ⟨_, ((hM.out.setDm l1 l2).setAr l3 l4).ex ⟨X, rfl⟩⟩ ((((Dv.refl _ _).setP 3 _).setP 2 _).grow ⟨X, rfl⟩))
          go_enter Try.func45, Try.ntmps45
          go_wp2_with (first | (go_at_call 44; (with_reducible refine (HL.out _ (by (try show Ex _ _); repeat (first | (with_reducible exact ex_refl _) | (with_reducible assumption) | (with_reducible refine ex_drewL ?_) | (with_reducible refine ex_appR ?_ _) | (with_reducible refine ex_wx ?_ _) | (with_reducible refine ex_drew ?_) | (with_reducible refine ex_alloc ?_ _)))).mono ?_); rintro e w2 ⟨rfl, X, rfl⟩) | (go_at_call 58; (with_reducible refine (HD.out _).mono ?_); clear HD; rintro e w3 ⟨rfl, X3, rfl⟩) | (go_at_call 58; (with_reducible refine (HA.out _).mono ?_); clear HA; rintro e w4 ⟨rfl, X4, rfl⟩) | (go_at_call 49; (with_reducible refine (HW2.out _).mono ?_); rintro e w5 ⟨rfl, hE⟩; obtain ⟨k5, g5, z5⟩ := HE.out w5 hE; replace hE := Lib.hid hE))
          go_ret
          exact ⟨rfl, _, hE.out, rfl⟩
        | false =>
          clear hca
          simp only [Bool.false_eq_true, if_false] at HW
          have HW2 := Lib.hid (fun (X : More) => HW.out (wx (w.setCell ⟨L.p, 3, none⟩ (I y)) X) ⟨_, (hM.out.setDm l1 l2).ex ⟨X, rfl⟩⟩ (((Dv.refl _ _).setP 3 _).grow ⟨X, rfl⟩))
          go_enter Try.func45, Try.ntmps45
          go_wp2_with (first | (go_at_call 44; (with_reducible refine (HL.out _ (by (try show Ex _ _); repeat (first | (with_reducible exact ex_refl _) | (with_reducible assumption) | (with_reducible refine ex_drewL ?_) | (with_reducible refine ex_appR ?_ _) | (with_reducible refine ex_wx ?_ _) | (with_reducible refine ex_drew ?_) | (with_reducible refine ex_alloc ?_ _)))).mono ?_); rintro e w2 ⟨rfl, X, rfl⟩) | (go_at_call 58; (with_reducible refine (HD.out _).mono ?_); clear HD; rintro e w3 ⟨rfl, X3, rfl⟩) | (go_at_call 49; (with_reducible refine (HW2.out _).mono ?_); rintro e w5 ⟨rfl, hE⟩; obtain ⟨k5, g5, z5⟩ := HE.out w5 hE; replace hE := Lib.hid hE))
          go_ret
          exact ⟨rfl, _, hE.out, rfl⟩
  · have hr : reqD d s ch = (d, 2) := by unfold reqD; rw [if_neg hd, if_pos (by simpa using hin)]
    unfold PostRq
    rw [hr]
    clear HW HE hr
    have hul : IntKind.u64.wrap (d.has.length : Int) = (d.has.length : Int) := by rw [IntKind.wrap_u64]; omega
    obtain ⟨u, hu, hge⟩ : ∃ u, IntKind.u64.wrap s = u ∧ (d.has.length : Int) ≤ u := ⟨_, rfl, by rw [IntKind.wrap_u64]; omega⟩
    go_enter Try.func45, Try.ntmps45
    go_wp2_with (go_at_call 44; (with_reducible refine (HL.out _ (by (try show Ex _ _); repeat (first | (with_reducible exact ex_refl _) | (with_reducible assumption) | (with_reducible refine ex_drewL ?_) | (with_reducible refine ex_appR ?_ _) | (with_reducible refine ex_wx ?_ _) | (with_reducible refine ex_drew ?_) | (with_reducible refine ex_alloc ?_ _)))).mono ?_); rintro e w2 ⟨rfl, X, rfl⟩)
    go_ret
    exact Or.inl ⟨by decide, rfl, ⟨_, hM.out.ex (by (try show Ex _ _); repeat (first | (with_reducible exact ex_refl _) | (with_reducible assumption) | (with_reducible refine ex_drewL ?_) | (with_reducible refine ex_appR ?_ _) | (with_reducible refine ex_wx ?_ _) | (with_reducible refine ex_drew ?_) | (with_reducible refine ex_alloc ?_ _)))⟩, Dv.ofEx (by (try show Ex _ _); repeat (first | (with_reducible exact ex_refl _) | (with_reducible assumption) | (with_reducible refine ex_drewL ?_) | (with_reducible refine ex_appR ?_ _) | (with_reducible refine ex_wx ?_ _) | (with_reducible refine ex_drew ?_) | (with_reducible refine ex_alloc ?_ _)))⟩
end Go.Proofs.Ytdohohafdplkiaa
