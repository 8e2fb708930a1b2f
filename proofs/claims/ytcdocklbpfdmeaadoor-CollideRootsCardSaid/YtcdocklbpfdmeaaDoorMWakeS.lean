import Derived.Test.YtcdocklbpfdmeaaDoorMMix

/- Three leaves: their digests, reckoned. -/
set_option linter.unusedSimpArgs false
set_option linter.unusedVariables false
namespace Go.Proofs.YtcdocklbpfdmeaaDoor
def unitD (b : UInt8) : Dg := ofF fun i => if i = 0 then b else 0
def litD (l : List UInt8) : Dg := ofF (gF l)
def n01L : List UInt8 := [82, 223, 217, 9, 27, 183, 92, 92, 144, 15, 183, 180, 161, 188, 123, 163, 170, 115, 245, 33, 234, 114, 151, 174, 246, 144, 49, 191, 30, 234, 67, 239]
def r012L : List UInt8 := [23, 241, 16, 208, 224, 175, 94, 18, 57, 239, 24, 148, 225, 220, 23, 234, 121, 208, 66, 132, 159, 164, 8, 78, 86, 171, 133, 224, 64, 53, 43, 166]
def n00L : List UInt8 := [50, 37, 157, 90, 229, 166, 6, 214, 61, 203, 19, 130, 18, 238, 18, 82, 204, 87, 154, 28, 199, 39, 207, 16, 163, 20, 216, 176, 51, 88, 0, 28]
def r002L : List UInt8 := [17, 238, 180, 141, 27, 224, 174, 142, 8, 207, 55, 41, 179, 242, 21, 57, 61, 76, 34, 227, 225, 176, 217, 41, 187, 249, 253, 103, 43, 2, 127, 171]
theorem n01_lit : nodeD (unitD 1) (unitD 2) = litD n01L := by decide +kernel
theorem r012_lit : nodeD (litD n01L) (unitD 3) = litD r012L := by decide +kernel
theorem n00_lit : nodeD (unitD 1) (unitD 1) = litD n00L := by decide +kernel
theorem r002_lit : nodeD (litD n00L) (unitD 3) = litD r002L := by decide +kernel
def three : List Dg := [unitD 1, unitD 2, unitD 3]
theorem split3 : splitN 3 = 2 := by decide +kernel
theorem split2 : splitN 2 = 1 := by decide +kernel
theorem three_root : rootD three = litD r012L := by
  rw [root_two (by decide)]
  show nodeD (rootD ([unitD 1, unitD 2, unitD 3].take (splitN 3))) (rootD ([unitD 1, unitD 2, unitD 3].drop (splitN 3))) = _
  rw [split3]
  show nodeD (rootD [unitD 1, unitD 2]) (rootD [unitD 3]) = _
  rw [root_two (by decide), root_one]
  show nodeD (nodeD (rootD ([unitD 1, unitD 2].take (splitN 2))) (rootD ([unitD 1, unitD 2].drop (splitN 2)))) _ = _
  rw [split2]
  show nodeD (nodeD (rootD [unitD 1]) (rootD [unitD 2])) _ = _
  rw [root_one, root_one, n01_lit, r012_lit]
theorem three_path : pathD three 1 = [unitD 1, unitD 3] := by
  rw [path_lo (by decide) (by show 1 < splitN 3; rw [split3]; decide)]
  show pathD ([unitD 1, unitD 2, unitD 3].take (splitN 3)) 1 ++ [rootD ([unitD 1, unitD 2, unitD 3].drop (splitN 3))] = _
  rw [split3]
  show pathD [unitD 1, unitD 2] 1 ++ [rootD [unitD 3]] = _
  rw [root_one, path_hi (by decide) (by show ¬ 1 < splitN 2; rw [split2]; decide)]
  show pathD ([unitD 1, unitD 2].drop (splitN 2)) (1 - splitN 2) ++ [rootD ([unitD 1, unitD 2].take (splitN 2))] ++ _ = _
  rw [split2]
  show pathD [unitD 2] 0 ++ [rootD [unitD 1]] ++ _ = _
  rw [root_one, path_one (by decide)]; rfl
theorem three_proof : (proofD three 2 true).length = 1 := by
  rw [proof_lo (by decide) (by decide) (by show 2 ≤ splitN 3; rw [split3]; decide)]
  show (proofD ([unitD 1, unitD 2, unitD 3].take (splitN 3)) 2 true ++ _).length = _
  rw [split3]
  have := proof_all [unitD 1, unitD 2] true
  rw [show [unitD 1, unitD 2].length = 2 from rfl] at this
  show (proofD [unitD 1, unitD 2] 2 true ++ _).length = _
  rw [this]; rfl
theorem three_climb : climbD 3 1 (unitD 2) (pathD three 1) = some (litD r012L) := by
  have := climb_path 3 three 1 (unitD 2) rfl rfl
  rw [three_root] at this
  exact this
theorem three_off : decide (climbD 3 1 (unitD 1) (pathD three 1) = some (litD r012L)) = false := by
  apply decide_eq_false
  rw [three_path]
  intro h
  have h1 := climb_lo (n := 3) (i := 1) (by decide) (by rw [split3]; decide) (unitD 1) (unitD 3) [unitD 1]
  have h2 := climb_hi (n := 2) (i := 1) (by decide) (by rw [split2]; decide) (unitD 1) (unitD 1) []
  rw [split2] at h2
  rw [split3] at h1
  have h3 : climbD 1 0 (unitD 1) [] = some (unitD 1) := climb_one _ _ _
  have h4 : climbD 3 1 (unitD 1) [unitD 1, unitD 3] = some (nodeD (nodeD (unitD 1) (unitD 1)) (unitD 3)) := by
    show climbD 3 1 (unitD 1) ([unitD 1] ++ [unitD 3]) = _
    rw [h1]
    show Option.map _ (climbD 2 1 (unitD 1) ([] ++ [unitD 1])) = _
    rw [h2]
    show Option.map _ (Option.map _ (climbD 1 0 (unitD 1) [])) = _
    rw [h3]; rfl
  rw [h4, n00_lit, r002_lit] at h
  exact absurd (Option.some.inj h) (by decide +kernel)
theorem three_ne : decide (litD r012L = litD n01L) = false := by decide +kernel
end Go.Proofs.YtcdocklbpfdmeaaDoor
