import Derived.Test.YtcdocklbpfdmeaaDoorMCoS
import Derived.Test.YtcdocklbpfdmeaaDoorMBelow

/- Collide's plain law: what a span tells is what stands in the range; bytes that tell what they are of (checked stand-alone). -/
set_option linter.unusedSimpArgs false
set_option linter.unusedVariables false
set_option linter.unnecessarySimpa false
namespace Go.Proofs.YtcdocklbpfdmeaaDoor
/-! ### What a span tells, where it is the pairs that are there -/
theorem prAt_mem {l : List Pr} {i : Nat} {p : Pr} (h : l[i]? = some p) : prAt l i = p := by
  unfold prAt; rw [List.getD_eq_getElem?_getD, h]; rfl
theorem filter_none {l : List Pr} {g : Pr → Bool} (h : ∀ p ∈ l, g p = false) : l.filter g = [] := by
  rw [List.filter_eq_nil_iff]
  intro p hp
  rw [h p hp]; exact Bool.false_ne_true
theorem range_so {l pairs : List Pr} {r : Rg} {f : Nat} (hl : rightP l = true) (hp : ∀ j, j < pairs.length → pairs[j]? = l[f + j]?) (hf : f + pairs.length ≤ l.length) (h0 : 0 < pairs.length)
    (ha : f = 0 ∨ ltS (prAt pairs 0).1 r.lo = true) (hb : f + pairs.length = l.length ∨ (ltS (prAt pairs (pairs.length - 1)).1 r.lo = false ∧ inP r (prAt pairs (pairs.length - 1)).1 = false)) :
    pairs.filter (fun p => inP r p.1) = l.filter fun p => inP r p.1 := by
  have hat : ∀ j, j < pairs.length → prAt pairs j = prAt l (f + j) := fun j hj => by
    unfold prAt; rw [List.getD_eq_getElem?_getD, List.getD_eq_getElem?_getD, hp j hj]
  have hmid : (l.drop f).take pairs.length = pairs := by
    apply List.ext_getElem?
    intro j
    by_cases hj : j < pairs.length
    · rw [List.getElem?_take_of_lt hj, List.getElem?_drop, hp j hj]
    · rw [List.getElem?_eq_none (by rw [List.length_take]; omega), List.getElem?_eq_none (by omega)]
  have hsplit : l = l.take f ++ (pairs ++ l.drop (f + pairs.length)) := by
    conv => lhs; rw [← List.take_append_drop f l]
    congr 1
    conv => lhs; rw [← List.take_append_drop pairs.length (l.drop f), hmid, List.drop_drop]
  have h1 : (l.take f).filter (fun p => inP r p.1) = [] := filter_none fun p hpm => by
    obtain ⟨i, hi⟩ := List.getElem?_of_mem hpm
    have hil := (List.getElem?_eq_some_iff.1 hi).1
    rw [List.length_take] at hil
    rw [List.getElem?_take_of_lt (by omega)] at hi
    rcases ha with ha | ha
    · omega
    · rw [hat 0 h0, Nat.add_zero] at ha
      have h2 := sorted_lt hl f i (by omega) (by omega)
      rw [prAt_mem hi] at h2
      unfold inP
      rw [ltS_trans h2 ha]; rfl
  have h3 : (l.drop (f + pairs.length)).filter (fun p => inP r p.1) = [] := filter_none fun p hpm => by
    obtain ⟨i, hi⟩ := List.getElem?_of_mem hpm
    have hil := (List.getElem?_eq_some_iff.1 hi).1
    rw [List.length_drop] at hil
    rw [List.getElem?_drop] at hi
    rcases hb with hb | ⟨hb1, hb2⟩
    · omega
    · rw [hat _ (by omega)] at hb1 hb2
      have h2 := sorted_lt hl (f + pairs.length + i) (f + (pairs.length - 1)) (by omega) (by omega)
      rw [prAt_mem hi] at h2
      unfold inP at hb2 ⊢
      rw [hb1] at hb2
      simp only [Bool.not_false, Bool.true_and, Bool.or_eq_false_iff] at hb2
      cases hh : ltS p.1 r.hi with
      | false => rw [hb2.1]; simp
      | true => rw [ltS_trans h2 hh] at hb2; exact absurd hb2.2 (by decide)
  conv => rhs; rw [hsplit]
  rw [List.filter_append, List.filter_append, h1, h3]
  simp
/-! ### Bytes that tell what they are of -/
theorem ofNat_inj8 {a b : Nat} (ha : a < 256) (hb : b < 256) (h : UInt8.ofNat a = UInt8.ofNat b) : a = b := by
  have := congrArg UInt8.toNat h
  simpa [Nat.mod_eq_of_lt ha, Nat.mod_eq_of_lt hb] using this
theorem ofNat_mod8 {a b : Nat} (h : UInt8.ofNat a = UInt8.ofNat b) : a % 256 = b % 256 := by
  have := congrArg UInt8.toNat h
  simpa using this
theorem hiL2_inj {a b : Nat} (ha : a < 65536) (hb : b < 65536) (h : hiL a 2 = hiL b 2) : a = b := by
  have h : [UInt8.ofNat (a / 256 ^ 1), UInt8.ofNat (a / 256 ^ 0)] = [UInt8.ofNat (b / 256 ^ 1), UInt8.ofNat (b / 256 ^ 0)] := h
  have h1 := ofNat_mod8 (List.cons.inj h).1
  have h2 := ofNat_mod8 (List.cons.inj (List.cons.inj h).2).1
  omega
theorem hiL4_inj {a b : Nat} (ha : a < 4294967296) (hb : b < 4294967296) (h : hiL a 4 = hiL b 4) : a = b := by
  have h : [UInt8.ofNat (a / 256 ^ 3), UInt8.ofNat (a / 256 ^ 2), UInt8.ofNat (a / 256 ^ 1), UInt8.ofNat (a / 256 ^ 0)] = [UInt8.ofNat (b / 256 ^ 3), UInt8.ofNat (b / 256 ^ 2), UInt8.ofNat (b / 256 ^ 1), UInt8.ofNat (b / 256 ^ 0)] := h
  have h1 := ofNat_mod8 (List.cons.inj h).1
  have h2 := ofNat_mod8 (List.cons.inj (List.cons.inj h).2).1
  have h3 := ofNat_mod8 (List.cons.inj (List.cons.inj (List.cons.inj h).2).2).1
  have h4 := ofNat_mod8 (List.cons.inj (List.cons.inj (List.cons.inj (List.cons.inj h).2).2).2).1
  omega
theorem someL_inj {a b : ByteArray} {r s : List UInt8} (ha : a.size ≤ 65535) (hb : b.size ≤ 65535) (h : someL a ++ r = someL b ++ s) : a = b ∧ r = s := by
  have la : a.data.toList.length = a.size := Array.length_toList
  have lb : b.data.toList.length = b.size := Array.length_toList
  unfold someL at h
  rw [Nat.min_eq_left ha, Nat.min_eq_left hb, List.take_of_length_le (by omega), List.take_of_length_le (by omega), List.append_assoc, List.append_assoc] at h
  have h1 := List.append_inj h (by rw [hiL_len, hiL_len])
  have hs := hiL2_inj (by omega) (by omega) h1.1
  have h2 := List.append_inj h1.2 (by omega)
  refine ⟨?_, h2.2⟩
  apply ByteArray.ext
  exact Array.toList_inj.1 h2.1
theorem leafL_inj {p q : Pr} (hp : p.1.size ≤ 65535 ∧ p.2.size ≤ 65535) (hq : q.1.size ≤ 65535 ∧ q.2.size ≤ 65535) (h : leafL p = leafL q) : p = q := by
  unfold leafL at h
  rw [List.append_assoc, List.append_assoc] at h
  have h1 := someL_inj hp.1 hq.1 (List.append_inj h rfl).2
  have h2 := someL_inj (r := []) (s := []) hp.2 hq.2 (by rw [List.append_nil, List.append_nil]; exact h1.2)
  exact Prod.ext h1.1 h2.1
theorem crownL_inj {a b : Nat} {x y : Dg} (ha : a < 4294967296) (hb : b < 4294967296) (h : [2] ++ hiL a 4 ++ bytesD x = [2] ++ hiL b 4 ++ bytesD y) : a = b ∧ x = y := by
  rw [List.append_assoc, List.append_assoc] at h
  have h1 := List.append_inj (List.append_inj h rfl).2 (by rw [hiL_len, hiL_len])
  exact ⟨hiL4_inj ha hb h1.1, bytesD_inj h1.2⟩
end Go.Proofs.YtcdocklbpfdmeaaDoor
