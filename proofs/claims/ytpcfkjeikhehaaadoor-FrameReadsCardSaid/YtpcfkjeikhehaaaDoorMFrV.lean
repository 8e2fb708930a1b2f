import Derived.Test.YtpcfkjeikhehaaaDoorMFrR

/- Messages in memory; Check and plain of whatever message. -/
set_option linter.unusedSimpArgs false
set_option linter.unusedVariables false
set_option maxRecDepth 20000
namespace Go.Proofs.YtpcfkjeikhehaaaDoor
open Go.RowKit
/-- A value that reads as a message. -/
structure MsV (w : World) (v : Value) (m : Ms) : Prop where
  out : ∃ ev mv dv, v = .agg #[I m.kd, I m.fr, I m.to, L m.tm, L m.pi, L m.pt, ev, L m.cm, .bool m.ok, mv, dv] ∧ SlG w ev m.es ∧ SlZ w mv m.mb ∧ SlT w dv m.da
theorem MsV.ex {w w' : World} {v : Value} {m : Ms} (h : MsV w v m) (k : Ex w w') : MsV w' v m := by
  obtain ⟨ev, mv, dv, h1, h2, h3, h4⟩ := h.out
  exact ⟨ev, mv, dv, h1, h2.ex k, h3.ex k, h4.ex k⟩
theorem okN_eq : okN = fun n => decide (1 ≤ n) && decide (n ≤ 255) := rfl
theorem rightM_eq (m : Ms) : rightM m = (kindC m.kd m.pi (zeroM m) && endsC (nodeB m.fr) (nodeB m.to) m.fr m.to m.tm && !farC m.es.length m.mb.length m.da.length && m.mb.all okN && decide (logErr m.pi m.pt m.tm m.es = 0)) := by
  obtain ⟨kd, fr, to, tm, pi, pt, es, cm, ok, mb, da⟩ := m
  simp only [rightM, okN_eq]
  generalize zeroM _ = zb
  generalize List.all mb _ = ao
  rw [Bool.eq_iff_iff]
  have htm : ln tm = (tm.toNat : Int) := rfl
  simp only [kindC, endsC, farC, nodeB, logErr, mayB, roomB, Bool.and_eq_true, Bool.not_eq_true', Bool.or_eq_false_iff, decide_eq_true_eq, decide_eq_false_iff_not, beq_iff_eq, Bool.and_eq_false_iff]
  generalize standE es pt = st
  generalize hlt : (lastT pt es).toNat = lt
  by_cases hk5 : kd = 5
  · subst hk5
    by_cases hpi : pi = 0
    · simp [hpi]
    · constructor
      · intro h
        simp only [hpi] at h ⊢
        obtain ⟨⟨⟨⟨⟨⟨⟨⟨⟨⟨⟨⟨⟨⟨⟨⟨⟨⟨h1, h2⟩, h3⟩, h4⟩, h5⟩, h6⟩, h7⟩, h8⟩, h9⟩, h10⟩, h11⟩, h12⟩, h13⟩, h14⟩, h15⟩, h16⟩, h17⟩, h18⟩, h19⟩ := h
        refine ⟨⟨⟨⟨⟨⟨⟨by omega, by omega⟩, h3⟩, by simp⟩, ⟨⟨⟨⟨by omega, by omega⟩, h6⟩, by omega⟩, by omega⟩⟩, ⟨by omega, by omega⟩, by omega⟩, h17⟩, ?_⟩
        rw [if_pos ⟨⟨⟨by simpa using h11, by omega⟩, by omega⟩, h18⟩, if_neg (by omega)]
      · intro h
        simp only [hpi] at h ⊢
        obtain ⟨⟨⟨⟨⟨⟨⟨h1, h2⟩, h3⟩, _⟩, ⟨⟨⟨⟨h4, h5⟩, h6⟩, h7⟩, h8⟩⟩, ⟨h9, h10⟩, h11⟩, h12⟩, h13⟩ := h
        split at h13
        · rename_i hm
          split at h13
          · cases h13
          · rename_i hl
            obtain ⟨⟨⟨m1, m2⟩, m3⟩, m4⟩ := hm
            refine ⟨⟨⟨⟨⟨⟨⟨⟨⟨⟨⟨⟨⟨⟨⟨⟨⟨⟨by omega, by omega⟩, h3⟩, by omega⟩, by omega⟩, h6⟩, by omega⟩, by omega⟩, by omega⟩, by omega⟩, by simpa using m1⟩, by simp⟩, by omega⟩, by omega⟩, by omega⟩, by omega⟩, h12⟩, m4⟩, by omega⟩
        · cases h13
  · constructor
    · intro h
      obtain ⟨⟨⟨⟨⟨⟨⟨⟨⟨⟨⟨⟨⟨⟨⟨⟨⟨⟨h1, h2⟩, h3⟩, h4⟩, h5⟩, h6⟩, h7⟩, h8⟩, h9⟩, h10⟩, h11⟩, h12⟩, h13⟩, h14⟩, h15⟩, h16⟩, h17⟩, h18⟩, h19⟩ := h
      refine ⟨⟨⟨⟨⟨⟨⟨by omega, by omega⟩, h3⟩, Or.inl hk5⟩, ⟨⟨⟨⟨by omega, by omega⟩, h6⟩, by omega⟩, by omega⟩⟩, ⟨by omega, by omega⟩, by omega⟩, h17⟩, ?_⟩
      rw [if_pos ⟨⟨⟨h11, by omega⟩, by omega⟩, h18⟩, if_neg (by omega)]
    · intro h
      obtain ⟨⟨⟨⟨⟨⟨⟨h1, h2⟩, h3⟩, _⟩, ⟨⟨⟨⟨h4, h5⟩, h6⟩, h7⟩, h8⟩⟩, ⟨h9, h10⟩, h11⟩, h12⟩, h13⟩ := h
      split at h13
      · rename_i hm
        split at h13
        · cases h13
        · rename_i hl
          obtain ⟨⟨⟨m1, m2⟩, m3⟩, m4⟩ := hm
          refine ⟨⟨⟨⟨⟨⟨⟨⟨⟨⟨⟨⟨⟨⟨⟨⟨⟨⟨by omega, by omega⟩, h3⟩, by omega⟩, by omega⟩, h6⟩, by omega⟩, by omega⟩, by omega⟩, by omega⟩, m1⟩, Or.inl (beq_eq_false_iff_ne.2 hk5)⟩, by omega⟩, by omega⟩, by omega⟩, by omega⟩, h12⟩, m4⟩, by omega⟩
      · cases h13
theorem errC_ne (b : Bool) : (errC b != 0) = !b := by cases b <;> rfl
theorem check_any (m : Ms) (v : Value) (w : World) (G : FGlob w) (hs : MsV w v m) (he : m.es.length ≤ 1000) :
    Calls Tryd.prog 18 #[v] w (Post w (I (errC (rightM m)))) := by
  obtain ⟨ev, mv, dv, rfl, h1, h2, h3⟩ := hs.out
  obtain ⟨a1, c1, rfl, e1, e2, e3, _⟩ := id h1.out
  obtain ⟨a2, c2, rfl, f1, f2, f3, _⟩ := id h2.out
  obtain ⟨a3, c3, rfl, g1, g2, g3, _⟩ := id h3.out
  rw [rightM_eq]
  refine check_core m.kd m.fr m.to m.tm m.pi m.pt m.cm a1 a2 a3 m.es.length c1 m.mb.length c2 m.da.length c3 m.ok w (zeroM m) (m.mb.all okN) (logErr m.pi m.pt m.tm m.es) (fun k1 k5 w' k => ?_) (fun w' k => ?_) (fun w' k => ?_)
  · obtain ⟨n, hn⟩ : ∃ n : Nat, m.kd = n := ⟨m.kd.toNat, by omega⟩
    have := bare_any n w' (G.ex k) (by omega) (by omega) m.fr m.to m.tm m.pi m.pt m.cm a1 a2 a3 m.es.length c1 m.mb.length c2 m.da.length c3 m.ok
    rw [← hn] at this
    exact this
  · exact containsFunc_any m.mb _ w' (h2.ex k)
  · exact logCheck_any m.pi m.pt m.tm m.es _ w' he (h1.ex k)
theorem plain_any (m : Ms) (v : Value) (w : World) (G : FGlob w) (hs : MsV w v m) (hr : rightM m = true) :
    Calls Tryd.prog 32 #[v] w (PostOw w (plainM m)) := by
  obtain ⟨ev, mv, dv, rfl, h1, h2, h3⟩ := hs.out
  obtain ⟨⟨a1, a2⟩, zx, ⟨a3, a4, a5, a6⟩, a7, a8, a9, a10, a11⟩ := rightM_spec hr
  have hk : m.kd = 1 ∨ m.kd = 2 ∨ m.kd = 3 ∨ m.kd = 4 ∨ m.kd = 5 := by omega
  rcases hk with h | h | h | h | h
  · rw [h]
    exact plain_k1 m.fr m.to m.tm m.pi m.pt m.cm ev mv dv m.ok _ w G ⟨a3, a4⟩ ⟨a5, a6⟩ (Lib.hid (by unfold plainM; rw [h]; simp [optL, hasO, hasP, hasC, hasE, hasM, hasD]))
  · rw [h]
    exact plain_k2 m.fr m.to m.tm m.pi m.pt m.cm ev mv dv m.ok _ w G ⟨a3, a4⟩ ⟨a5, a6⟩ (Lib.hid (by unfold plainM; rw [h]; simp [optL, hasO, hasP, hasC, hasE, hasM, hasD]))
  · rw [h]
    exact plain_k3 m.fr m.to m.tm m.pi m.pt m.cm ev mv dv m.ok m.es _ w G ⟨a3, a4⟩ ⟨a5, a6⟩ h1 a7 a11 (Lib.hid (by unfold plainM; rw [h]; simp [optL, hasO, hasP, hasC, hasE, hasM, hasD]))
  · rw [h]
    exact plain_k4 m.fr m.to m.tm m.pi m.pt m.cm ev mv dv m.ok _ w G ⟨a3, a4⟩ ⟨a5, a6⟩ (Lib.hid (by unfold plainM; rw [h]; simp [optL, hasO, hasP, hasC, hasE, hasM, hasD]))
  · rw [h]
    exact plain_k5 m.fr m.to m.tm m.pi m.pt m.cm ev mv dv m.ok m.mb m.da _ w G ⟨a3, a4⟩ ⟨a5, a6⟩ h2 a8 h3 a9 (Lib.hid (by unfold plainM; rw [h]; simp [optL, hasO, hasP, hasC, hasE, hasM, hasD]))
end Go.Proofs.YtpcfkjeikhehaaaDoor
