/- A Mixed that is read. -/
import Derived.Test.YtbebehcalephfaaDoorOpen
set_option linter.unusedSimpArgs false
set_option linter.unusedVariables false
set_option maxRecDepth 20000
namespace Go.Proofs.YtbebehcalephfaaDoor
open Go.RowKit Go.ChangeShapes
theorem int_of_trod32 {H : Type} {enc : TypeId × Value → H} {P : Program} {w : World} {base : Nat} {sp : Nat → Bool} {held : Bool} {t : TypeId} {fuel : Nat} {cs : List Value} {x : DataW H × List MemPlace} (ht : P.underlying t = some (.int .u32)) (h : DataW.trod enc P w base sp held fuel t cs = some x) : ∃ u : UInt32, cs = [U u] := by
  obtain ⟨z, rfl, _, hw⟩ := DataW.trod_int ht h
  simp only [Lit.wf, Bool.and_eq_true, decide_eq_true_eq] at hw
  have h3 : 0 ≤ z ∧ z < 4294967296 := by simp [IntKind.min, IntKind.max, IntKind.bits, IntKind.signed] at hw; omega
  obtain ⟨u, hu⟩ := un_of z h3
  exact ⟨u, by rw [hu]⟩
theorem c4r : Tryd.prog.cellsOf 31 = 4 := by kernel_rfl
theorem c1r : Tryd.prog.cellsOf 22 = 1 := by kernel_rfl
theorem cmixed : Tryd.prog.cellsOf 33 = 6 := by kernel_rfl
theorem mixed_of_trod {H : Type} {enc : TypeId × Value → H} {w : World} {base : Nat} {sp : Nat → Bool} {held : Bool} {fuel : Nat} {cs : List Value} {x : DataW H × List MemPlace}
    (h : DataW.trod enc Tryd.prog w base sp held fuel 33 cs = some x) : ∃ F : Nat → UInt32, cs = (rowU 6 F).toList := by
  obtain ⟨xs, m, _, _, hl, hxl, hel⟩ := DataW.trod_struct Tryd.underlying33 h
  rw [cmixed] at hl
  have hxl' : xs.length = 3 := hxl
  have e0 : DataW.trod enc Tryd.prog w base sp held m 31 ((cs.drop 0).take (Tryd.prog.cellsOf 31)) = xs[0]? := hel 0 _ rfl
  have e1 : DataW.trod enc Tryd.prog w base sp held m 22 ((cs.drop 4).take (Tryd.prog.cellsOf 22)) = xs[1]? := hel 1 _ rfl
  have e2 : DataW.trod enc Tryd.prog w base sp held m 22 ((cs.drop 5).take (Tryd.prog.cellsOf 22)) = xs[2]? := hel 2 _ rfl
  rw [c4r] at e0
  rw [c1r] at e1 e2
  rw [List.getElem?_eq_getElem (by omega)] at e0 e1 e2
  obtain ⟨f, hf⟩ := arrU_of_trod Tryd.underlying31 Tryd.underlying22 c1r c4r e0
  obtain ⟨u, hu⟩ := int_of_trod32 Tryd.underlying22 e1
  obtain ⟨v, hv⟩ := int_of_trod32 Tryd.underlying22 e2
  refine ⟨fun i => if i < 4 then f i else if i = 4 then u else v, List.ext_getElem? fun i => ?_⟩
  have er := rowU_get 6 (fun i => if i < 4 then f i else if i = 4 then u else v) i
  rw [← Array.getElem?_toList] at er
  refine Eq.trans ?_ er.symm
  by_cases h4 : i < 4
  · have h5 := congrArg (·[i]?) hf
    simp only [List.getElem?_take, h4, if_true, List.drop_zero] at h5
    have e := rowU_get 4 f i
    rw [← Array.getElem?_toList, if_pos h4] at e
    rw [if_pos (by omega), if_pos h4]
    exact h5.trans e
  · by_cases h5 : i = 4
    · subst h5
      have := congrArg (·[0]?) hu
      simp [List.getElem?_take, List.getElem?_drop] at this
      rw [this]; simp
    · by_cases h6 : i = 5
      · subst h6
        have := congrArg (·[0]?) hv
        simp [List.getElem?_take, List.getElem?_drop] at this
        rw [this]; simp
      · rw [List.getElem?_eq_none (by omega), if_neg (by omega)]
end Go.Proofs.YtbebehcalephfaaDoor
