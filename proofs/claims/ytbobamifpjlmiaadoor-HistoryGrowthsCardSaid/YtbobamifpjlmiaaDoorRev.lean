/- slices.Reverse of digests and of bools; own slices of both. -/
import Derived.Test.YtbobamifpjlmiaaDoorOwn
import Derived.Test.YtbobamifpjlmiaaDoorDg
import Derived.Test.YtbobamifpjlmiaaDoorSeq
import Derived.Shelf.RegionOpenPlain
set_option linter.unusedSimpArgs false
set_option linter.unusedVariables false
set_option maxRecDepth 20000
namespace Go.Proofs.YtbobamifpjlmiaaDoor
open Go.RowKit
def KD (d : Dg) : List Value := (rowB 32 (dF d)).toList
def KB (b : Bool) : List Value := [.bool b]
theorem KD_len (d : Dg) : (KD d).length = 32 := by simp [KD]
theorem KB_len (b : Bool) : (KB b).length = 1 := rfl
@[go_sem] theorem KD_back (d : Dg) : (KD d).toArray = rowB 32 (dF d) := by simp [KD]
/-- A row of digests of the call's own. -/
def OwnD (w : World) (Z : Nat) (v : Value) (l : List Dg) : Prop := w.ownsRow Z 26 32 v l.length (l.flatMap KD)
def OwnB (w : World) (Z : Nat) (v : Value) (l : List Bool) : Prop := w.ownsRow Z 4 1 v l.length (l.flatMap KB)
theorem own_form {w : World} {Z : Nat} {t : TypeId} {s : Nat} {v : Value} {n : Nat} {xs : List Value} (h : w.ownsRow Z t s v n xs) : ∃ a c, v = .slice a n c ∧ n ≤ c ∧ c ≤ maxLen ∧ (a = none → c = 0) := by
  rcases h.2 with ⟨rfl, rfl⟩ | ⟨g, cap, cur, rfl, h1, h2, h3, h4, h5, h6⟩
  · exact ⟨none, 0, rfl, by omega, by decide, fun _ => rfl⟩
  · exact ⟨_, cap, rfl, h3, h4, fun h => by cases h⟩
set_option maxHeartbeats 1000000 in
theorem revd_any {Z : Nat} (l : List Dg) (v : Value) (w : World) (hown : OwnD w Z v l) (hl : l.length ≤ 140737488355328) :
    Calls Tryd.prog 65 #[v] w fun e w' => e = .returned (.tuple #[]) ∧ OwnD w' Z v l.reverse ∧ Below Z w w' := by
  obtain ⟨a, c, rfl, k1, k2, k3⟩ := own_form hown
  generalize hn : l.length = n at hl k1
  have HN : Hid (l.length = n) := Lib.hid hn
  unfold OwnD at hown ⊢
  rw [List.length_reverse]
  rw [hn] at hown ⊢
  clear hn
  go_enter Tryd.func65, Tryd.ntmps65
  go_wp2
  go_loopw [2, 3] (fun i j W => ∃ (q : Nat) (m : List Dg), q ≤ n ∧ i = I q ∧ j = I ((n : Int) - 1 - q) ∧ Hid (Turned l m q) ∧ Hid (W.ownsRow Z 26 32 (.slice a n c) n (m.flatMap KD)) ∧ Hid (Below Z w W)) (fun i _ _ => n - (intOf i).toNat)
  case atStart => exact ⟨0, l, by omega, rfl, by simp, Lib.hid (turned_start l), Lib.hid hown, Lib.hid (Below.refl _ _)⟩
  case round =>
    obtain ⟨q, m, hq, rfl, rfl, HT, HO, HB⟩ := hrel
    by_cases hlt : (q : Int) < (n : Int) - 1 - q
    · have hln := HN.out
      have hml := HT.out.len
      obtain ⟨g, cap, cur, hv, _⟩ := own_block HO.out (by omega) (by omega)
      obtain ⟨rfl, rfl⟩ : a = some ⟨g, 0, none⟩ ∧ c = cap := by simpa using hv
      obtain ⟨x, hx⟩ : ∃ x, m[q]? = some x := ⟨_, List.getElem?_eq_getElem (by omega)⟩
      obtain ⟨y, hy⟩ : ∃ y, m[n - 1 - q]? = some y := ⟨_, List.getElem?_eq_getElem (by omega)⟩
      obtain ⟨c1, f1, z1, z2⟩ := own_at KD_len HO.out hx
      obtain ⟨c2, f2, _, _⟩ := own_at KD_len HO.out hy
      rw [KD_back] at c1 c2
      have e1 : ((n : Int) - 1 - q) = ((n - 1 - q : Nat) : Int) := by omega
      have hO2 := own_set KD_len (by omega) HO.out y (i := q) (by omega)
      have hO3 := own_set KD_len (by omega) hO2.1 x (i := n - 1 - q) (by simp; omega)
      have HO3 := Lib.hid hO3
      have HB3 : Hid (Below Z w _) := Lib.hid ((HB.out.trans hO2.2).trans hO3.2)
      have HT3 := Lib.hid (turned_step HT.out (by omega) (by omega) hx hy)
      generalize hJ : n - 1 - q = J at e1 c2 f2 HO3 HB3 HT3
      have j1 : (q : Int) < n := by omega
      have j2 : (J : Int) < n := by omega
      have j3 : (0 : Int) ≤ J := by omega
      clear hO2 hO3 hv hln hml hx hy HN HT HO HB hJ
      rw [e1] at hlt ⊢
      go_wp2
      have mixed : Tryd.prog.follows .mixedOrders = true := by kernel_rfl
      go_big_region_o
      all_goals go_wp2
      refine ⟨⟨q + 1, (m.set q y).set J x, by omega, by go_num, ?_, HT3, ?_, ?_⟩, by simp [intOf]; omega⟩
      · congr 1; omega
      · exact Lib.hid (owns_drew HO3.out.1)
      · exact Lib.hid HB3.out.drew
    · have hl2 := HN.out
      have he := turned_end HT.out (by omega)
      rw [he] at HO
      clear he HT hq hown
      go_wp2
      go_end0
      exact ⟨rfl, HO.out, HB.out⟩
theorem own_atB {w : World} {Z g n cap : Nat} {l : List Bool} (h : w.ownsRow Z 4 1 (.slice (some ⟨g, 0, none⟩) n cap) n (l.flatMap KB)) {i : Nat} {a : Bool} (hi : l[i]? = some a) :
    w.cell? ⟨g, i, none⟩ = some (.bool a) ∧ w.frozen? ⟨g, i, none⟩ = false ∧ Z ≤ g ∧ g < w.heap.size := by
  obtain ⟨h1, h2, h3⟩ := own_at KB_len h hi
  have h4 := (cellsN_some.1 h1).2 0 (by omega)
  have h5 := frozenN_false.1 h2 0 (by omega)
  rw [Nat.mul_one, Nat.add_zero] at h4 h5
  exact ⟨h4, h5, h3⟩
theorem own_setB {w : World} {Z g n cap : Nat} {l : List Bool} (h : w.ownsRow Z 4 1 (.slice (some ⟨g, 0, none⟩) n cap) n (l.flatMap KB)) {i : Nat} (a : Bool) (hi : i < l.length) :
    (w.setCell ⟨g, i, none⟩ (.bool a)).ownsRow Z 4 1 (.slice (some ⟨g, 0, none⟩) n cap) n ((l.set i a).flatMap KB) ∧ Below Z w (w.setCell ⟨g, i, none⟩ (.bool a)) := by
  have := own_set KB_len (by omega) h a hi
  rwa [Nat.mul_one] at this
set_option maxHeartbeats 1000000 in
theorem revb_any {Z : Nat} (l : List Bool) (v : Value) (w : World) (hown : OwnB w Z v l) (hl : l.length ≤ 140737488355328) :
    Calls Tryd.prog 69 #[v] w fun e w' => e = .returned (.tuple #[]) ∧ OwnB w' Z v l.reverse ∧ Below Z w w' := by
  obtain ⟨a, c, rfl, k1, k2, k3⟩ := own_form hown
  generalize hn : l.length = n at hl k1
  have HN : Hid (l.length = n) := Lib.hid hn
  unfold OwnB at hown ⊢
  rw [List.length_reverse]
  rw [hn] at hown ⊢
  clear hn
  go_enter Tryd.func69, Tryd.ntmps69
  go_wp2
  go_loopw [2, 3] (fun i j W => ∃ (q : Nat) (m : List Bool), q ≤ n ∧ i = I q ∧ j = I ((n : Int) - 1 - q) ∧ Hid (Turned l m q) ∧ Hid (W.ownsRow Z 4 1 (.slice a n c) n (m.flatMap KB)) ∧ Hid (Below Z w W)) (fun i _ _ => n - (intOf i).toNat)
  case atStart => exact ⟨0, l, by omega, rfl, by simp, Lib.hid (turned_start l), Lib.hid hown, Lib.hid (Below.refl _ _)⟩
  case round =>
    obtain ⟨q, m, hq, rfl, rfl, HT, HO, HB⟩ := hrel
    by_cases hlt : (q : Int) < (n : Int) - 1 - q
    · have hln := HN.out
      have hml := HT.out.len
      obtain ⟨g, cap, cur, hv, _⟩ := own_block HO.out (by omega) (by omega)
      obtain ⟨rfl, rfl⟩ : a = some ⟨g, 0, none⟩ ∧ c = cap := by simpa using hv
      obtain ⟨x, hx⟩ : ∃ x, m[q]? = some x := ⟨_, List.getElem?_eq_getElem (by omega)⟩
      obtain ⟨y, hy⟩ : ∃ y, m[n - 1 - q]? = some y := ⟨_, List.getElem?_eq_getElem (by omega)⟩
      obtain ⟨c1, f1, z1, z2⟩ := own_atB HO.out hx
      obtain ⟨c2, f2, _, _⟩ := own_atB HO.out hy
      have e1 : ((n : Int) - 1 - q) = ((n - 1 - q : Nat) : Int) := by omega
      have hO2 := own_setB HO.out y (i := q) (by omega)
      have hO3 := own_setB hO2.1 x (i := n - 1 - q) (by simp; omega)
      have HO3 := Lib.hid hO3
      have HB3 : Hid (Below Z w _) := Lib.hid ((HB.out.trans hO2.2).trans hO3.2)
      have HT3 := Lib.hid (turned_step HT.out (by omega) (by omega) hx hy)
      generalize hJ : n - 1 - q = J at e1 c2 f2 HO3 HB3 HT3
      have j1 : (q : Int) < n := by omega
      have j2 : (J : Int) < n := by omega
      have j3 : (0 : Int) ≤ J := by omega
      clear hO2 hO3 hv hln hml hx hy HN HT HO HB hJ
      rw [e1] at hlt ⊢
      go_wp2
      have mixed : Tryd.prog.follows .mixedOrders = true := by kernel_rfl
      go_big_region_o
      all_goals go_wp2
      refine ⟨⟨q + 1, (m.set q y).set J x, by omega, by go_num, ?_, HT3, ?_, ?_⟩, by simp [intOf]; omega⟩
      · congr 1; omega
      · exact Lib.hid (owns_drew HO3.out.1)
      · exact Lib.hid HB3.out.drew
    · have hl2 := HN.out
      have he := turned_end HT.out (by omega)
      rw [he] at HO
      clear he HT hq hown
      go_wp2
      go_end0
      exact ⟨rfl, HO.out, HB.out⟩
end Go.Proofs.YtbobamifpjlmiaaDoor
