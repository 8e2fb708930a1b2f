import Derived.Test.YtdohohafdplkiaaMDkUh

/- What failed left all as it was: the plain law. -/
set_option linter.unusedSimpArgs false
set_option linter.unusedVariables false
set_option maxRecDepth 20000
namespace Go.Proofs.Ytdohohafdplkiaa
/-- A disk of nine sectors with power. -/
def sD (h : List Bk) (q : List Pt) (ar dm : Int) (m : Nat) : Dk := ⟨h, q, ar, dm, false, m⟩
theorem sD_req {h : List Bk} {q : List Pt} {ar dm : Int} {m : Nat} {i : Int} {ch : Bool} (hi : 0 ≤ i ∧ i < h.length) (hn : ¬ (ch = true ∧ ar = 0)) : reqD (sD h q ar dm m) i ch = if dm = 0 then (sD h q ar (-1) m, 8) else (sD h q (if ch then down ar else ar) (down dm) m, 0) := by
  unfold reqD
  rw [if_neg (by simp [sD]), if_neg (by simpa [sD] using hi), if_neg (by simpa [sD] using hn)]
  by_cases h0 : dm = 0
  · subst h0; simp [sD, down]
  · rw [if_neg (by simpa [sD] using h0), if_neg h0]; rfl
theorem sD_fail (h : List Bk) (q : List Pt) (ar dm : Int) (m : Nat) {n : Int} (hn : 0 ≤ n) : failD (sD h q ar dm m) n = (sD h q ar n m, 0) := by
  unfold failD; rw [if_neg (by simp [sD])]; unfold sD; simp only; rw [Int.max_eq_left (by omega)]
theorem sD_fail' (h : List Bk) (q : List Pt) (ar dm : Int) (m : Nat) : failD (sD h q ar dm m) (-1) = (sD h q ar (-1) m, 0) := by
  unfold failD; rw [if_neg (by simp [sD])]; rfl
theorem sD_arm (h : List Bk) (q : List Pt) (ar dm : Int) (m : Nat) {n : Int} (hn : 0 ≤ n) : armD (sD h q ar dm m) n = (sD h q n dm m, 0) := by
  unfold armD; rw [if_neg (by simp [sD])]; unfold sD; simp only; rw [Int.max_eq_left (by omega)]
theorem sD_read {h : List Bk} {q : List Pt} {ar dm : Int} {m : Nat} {i : Int} (hi : 0 ≤ i ∧ i < h.length) (h0 : dm ≠ 0) : readD (sD h q ar dm m) i = (sD h q ar (down dm) (m + 1), readsD (sD h q ar dm m) i, 0) := by
  unfold readD; rw [sD_req hi (by simp), if_neg h0, if_pos rfl]; rfl
theorem sD_read8 {h : List Bk} {q : List Pt} {ar : Int} {m : Nat} {i : Int} (hi : 0 ≤ i ∧ i < h.length) : readD (sD h q ar 0 m) i = (sD h q ar (-1) m, zeroB, 8) := by
  unfold readD; rw [sD_req hi (by simp), if_pos rfl, if_neg (by simp)]
theorem sD_write {h : List Bk} {q : List Pt} {ar dm : Int} {m : Nat} {i : Int} {b : Bk} (hi : 0 ≤ i ∧ i < h.length) (h0 : dm ≠ 0) (ha : ar ≠ 0) : writeD (sD h q ar dm m) i b = (sD h (q ++ [(i, b)]) (down ar) (down dm) (m + 1), 0) := by
  unfold writeD; rw [sD_req hi (by simp [ha]), if_neg h0, if_pos rfl]; rfl
theorem sD_write8 {h : List Bk} {q : List Pt} {ar : Int} {m : Nat} {i : Int} {b : Bk} (hi : 0 ≤ i ∧ i < h.length) (ha : ar ≠ 0) : writeD (sD h q ar 0 m) i b = (sD h q ar (-1) m, 8) := by
  unfold writeD; rw [sD_req hi (by simp [ha]), if_pos rfl, if_neg (by simp)]
theorem sD_sync {h : List Bk} {q : List Pt} {ar dm : Int} {m : Nat} (hi : 0 < h.length) (h0 : dm ≠ 0) (ha : ar ≠ 0) : syncD (sD h q ar dm m) = (sD (doQ h 0 q fun _ => true) [] (down ar) (down dm) (m + 1), 0) := by
  unfold syncD; rw [sD_req ⟨by omega, by omega⟩ (by simp [ha]), if_neg h0, if_pos rfl]; rfl
theorem sD_sync8 {h : List Bk} {q : List Pt} {ar : Int} {m : Nat} (hi : 0 < h.length) (ha : ar ≠ 0) : syncD (sD h q ar 0 m) = (sD h q ar (-1) m, 8) := by
  unfold syncD; rw [sD_req ⟨by omega, by omega⟩ (by simp [ha]), if_pos rfl, if_neg (by simp)]
theorem down_m : down (-1) = -1 := rfl
theorem down_p {n : Nat} : down ((n : Int) + 1) = n := by unfold down; rw [if_neg (by omega)]; omega
/-- A question that is a request of a sector that is there. -/
structure AkR (a : Ak) : Prop where
  k1 : 3 ≤ a.kind
  k2 : a.kind ≤ 6
  a1 : 0 ≤ a.at'
  a2 : a.at' < 9
theorem sD_ask8 {a : Ak} (ha : AkR a) {h : List Bk} {q : List Pt} {m : Nat} (hl : h.length = 9) : askD a (sD h q (-1) 0 m) = (sD h q (-1) (-1) m, zeroB, 8) := by
  obtain ⟨k1, k2, a1, a2⟩ := ha
  have hi : 0 ≤ a.at' ∧ a.at' < h.length := by rw [hl]; exact ⟨a1, a2⟩
  unfold askD
  rw [if_neg (by omega), if_neg (by omega), if_neg (by omega)]
  split
  · rw [sD_sync8 (by omega) (by omega)]
  split
  · rw [sD_read8 hi]
  · rw [sD_write8 hi (by omega)]
theorem sD_ask {a : Ak} (ha : AkR a) {h : List Bk} {m : Nat} (hl : h.length = 9) : ∃ h' q' b, h'.length = 9 ∧ q'.length ≤ 1 ∧ askD a (sD h [] (-1) (-1) m) = (sD h' q' (-1) (-1) (m + 1), b, 0) := by
  obtain ⟨k1, k2, a1, a2⟩ := ha
  have hi : 0 ≤ a.at' ∧ a.at' < h.length := by rw [hl]; exact ⟨a1, a2⟩
  unfold askD
  rw [if_neg (by omega), if_neg (by omega), if_neg (by omega)]
  split
  · exact ⟨h, [], zeroB, hl, by simp, by rw [sD_sync (by omega) (by omega) (by omega)]; rfl⟩
  split
  · exact ⟨h, [], _, hl, by simp, by rw [sD_read hi (by omega)]; rfl⟩
  · exact ⟨h, [(a.at', blockA a.n)], zeroB, hl, by simp, by rw [sD_write hi (by omega) (by omega)]; rfl⟩
/-- Without power. -/
def oD (h : List Bk) (q : List Pt) (m : Nat) : Dk := ⟨h, q, 0, -1, true, m⟩
theorem sD_last {h : List Bk} {q : List Pt} {m : Nat} {b : Bk} (hi : 0 < h.length) : writeD (sD h q 0 (-1) m) 0 b = (oD h q m, 9) := by
  have : reqD (sD h q 0 (-1) m) 0 true = (oD h q m, 9) := by
    unfold reqD
    rw [if_neg (by simp [sD]), if_neg (by simp only [sD]; omega), if_pos (by simp [sD])]; rfl
  unfold writeD
  rw [this, if_neg (by simp)]
theorem oD_sync (h : List Bk) (q : List Pt) (m : Nat) : syncD (oD h q m) = (oD h q m, 9) := by
  unfold syncD reqD; simp [oD]
theorem oD_read (h : List Bk) (q : List Pt) (m : Nat) (i : Int) : readD (oD h q m) i = (oD h q m, zeroB, 9) := by
  unfold readD reqD; simp [oD]
theorem oD_arm (h : List Bk) (q : List Pt) (m : Nat) (n : Int) : armD (oD h q m) n = (oD h q m, 9) := by
  unfold armD; simp [oD]
theorem oD_fail (h : List Bk) (q : List Pt) (m : Nat) (n : Int) : failD (oD h q m) n = (oD h q m, 9) := by
  unfold failD; simp [oD]
theorem crash_sD (d : Dk) (keep : List Bool) : crashD d keep = sD (viewD d keep) [] (-1) (-1) d.ops := rfl
theorem sD_view (h : List Bk) (ar dm : Int) (m : Nat) (keep : List Bool) : viewD (sD h [] ar dm m) keep = h := view_empty rfl keep
end Go.Proofs.Ytdohohafdplkiaa
