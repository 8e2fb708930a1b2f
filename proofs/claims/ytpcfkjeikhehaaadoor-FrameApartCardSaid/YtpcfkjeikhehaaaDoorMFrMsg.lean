import Derived.Test.YtpcfkjeikhehaaaDoorMFrV
import Derived.Test.YtpcfkjeikhehaaaDoorMFrW

/- How a message's data open. -/
set_option linter.unusedSimpArgs false
set_option linter.unusedVariables false
set_option maxRecDepth 20000
namespace Go.Proofs.YtpcfkjeikhehaaaDoor
open Go.RowKit Go.ChangeShapes Go.WideShapes Go.ChangeAt
theorem cmsg : Tryd.prog.cellsOf 41 = 11 := by kernel_rfl
theorem cent : Tryd.prog.cellsOf 60 = 3 := by kernel_rfl
theorem cat_ : Tryd.prog.cellsOf 35 = 2 := by kernel_rfl
theorem cconf : Tryd.prog.cellsOf 39 = 1 := by kernel_rfl
theorem cint : Tryd.prog.cellsOf 3 = 1 := by kernel_rfl
theorem cbool : Tryd.prog.cellsOf 4 = 1 := by kernel_rfl
theorem cents : Tryd.prog.cellsOf 36 = 1 := by kernel_rfl
theorem cints : Tryd.prog.cellsOf 37 = 1 := by kernel_rfl
def mkL {α : Type} (n : Nat) (E : Nat → α) : List α := (List.range n).map E
theorem mkL_len {α : Type} (n : Nat) (E : Nat → α) : (mkL n E).length = n := by simp [mkL]
theorem mkL_get {α : Type} {n : Nat} {E : Nat → α} {i : Nat} {e : α} (h : (mkL n E)[i]? = some e) : i < n ∧ E i = e := by
  have hi : i < n := by
    have := (List.getElem?_eq_some_iff.1 h).1
    rwa [mkL_len] at this
  unfold mkL at h
  rw [List.getElem?_map, List.getElem?_range hi] at h
  exact ⟨hi, by simpa using h⟩
section
variable {H : Type} {enc : TypeId × Value → H} {w : World} {base : Nat} {sp : Nat → Bool} {held : Bool}
theorem bytes_of_trod {fuel : Nat} {cs : List Value} {x : DataW H × List MemPlace} (h : DataW.trod enc Tryd.prog w base sp held fuel 27 cs = some x) : ∃ v l, cs = [v] ∧ SlT w v l := by
  obtain ⟨a, n, c, f, hv, h1, h2, h3, h4⟩ := slB_open Tryd.underlying27 Tryd.underlying5 cb h
  exact ⟨_, _, hv, slt_of_ok (e := ⟨a, n, c, f⟩) ⟨h1, h2, h3, h4⟩⟩
theorem int_of_trod {fuel : Nat} {cs : List Value} {x : DataW H × List MemPlace} (h : DataW.trod enc Tryd.prog w base sp held fuel 3 cs = some x) : ∃ n : Int, cs = [I n] := by
  obtain ⟨n, hn, _⟩ := DataW.trod_int Tryd.underlying3 h
  exact ⟨n, hn⟩
theorem ints_of_trod {fuel : Nat} {cs : List Value} {x : DataW H × List MemPlace} (h : DataW.trod enc Tryd.prog w base sp held fuel 37 cs = some x) : ∃ v l, cs = [v] ∧ SlZ w v l := by
  obtain ⟨a, n, c, E, h1, h2, h3, h4, h5⟩ := elems_open (fun y : Int => #[I y]) (fun _ => rfl) Tryd.underlying37 cint (by decide) (fun _ _ _ h => int_of_trod h) h
  refine ⟨_, mkL n E, h1, a, c, by rw [mkL_len], by rw [mkL_len]; exact h2, h3, h4, ?_⟩
  rcases h5.out with rfl | ⟨g, off, h6, h7, h8⟩
  · exact ⟨Or.inl rfl⟩
  · refine ⟨Or.inr ⟨g, off, h6, h7, fun i y hy => ?_⟩⟩
    obtain ⟨hi, rfl⟩ := mkL_get hy
    have := (cellsN_some.1 (h8 i hi)).2 0 (Nat.zero_lt_one)
    simpa using this
theorem en_of_trod {fuel : Nat} {cs : List Value} {x : DataW H × List MemPlace} (h : DataW.trod enc Tryd.prog w base sp held fuel 60 cs = some x) : ∃ p : En × Value, cs = [L p.1.1, I p.1.2.1, p.2] ∧ SlT w p.2 p.1.2.2 := by
  obtain ⟨xs, m, _, _, hl, hxl, hel⟩ := DataW.trod_struct Tryd.underlying60 h
  rw [cent] at hl
  have hxl' : xs.length = 3 := hxl
  have e0 : DataW.trod enc Tryd.prog w base sp held m 25 ((cs.drop 0).take (Tryd.prog.cellsOf 25)) = xs[0]? := hel 0 _ rfl
  have e1 : DataW.trod enc Tryd.prog w base sp held m 3 ((cs.drop 1).take (Tryd.prog.cellsOf 3)) = xs[1]? := hel 1 _ rfl
  have e2 : DataW.trod enc Tryd.prog w base sp held m 27 ((cs.drop 2).take (Tryd.prog.cellsOf 27)) = xs[2]? := hel 2 _ rfl
  rw [c1u64] at e0
  rw [cint] at e1
  rw [c1rb] at e2
  rw [List.getElem?_eq_getElem (by omega)] at e0 e1 e2
  obtain ⟨t, ht⟩ := u64_of_trod e0
  obtain ⟨k, hk⟩ := int_of_trod e1
  obtain ⟨v, d, hd, sd⟩ := bytes_of_trod e2
  obtain ⟨a1, a2, a3, rfl⟩ : ∃ a b c, cs = [a, b, c] := by
    match cs, hl with
    | [a, b, c], _ => exact ⟨a, b, c, rfl⟩
  simp at ht hk hd
  subst ht hk hd
  exact ⟨((t, k, d), _), rfl, sd⟩
theorem ents_of_trod {fuel : Nat} {cs : List Value} {x : DataW H × List MemPlace} (h : DataW.trod enc Tryd.prog w base sp held fuel 36 cs = some x) : ∃ v l, cs = [v] ∧ SlG w v l := by
  obtain ⟨a, len, cap, rfl, h1, h2, h3, h4⟩ := slice_open Tryd.underlying36 cent (by decide) h
  rcases h4 with rfl | ⟨g, off, rfl, hg, hi⟩
  · exact ⟨_, [], rfl, a, cap, rfl, h1, h2, h3, ⟨Or.inl rfl⟩⟩
  · have hx : ∀ i, ∃ p : En × Value, i < len → w.cell? ⟨g, off + i * 3, none⟩ = some (L p.1.1) ∧ w.cell? ⟨g, off + i * 3 + 1, none⟩ = some (I p.1.2.1) ∧ w.cell? ⟨g, off + i * 3 + 2, none⟩ = some p.2 ∧ SlT w p.2 p.1.2.2 := by
      intro i
      by_cases hil : i < len
      · obtain ⟨ecs, f', y, hc, hy⟩ := hi i hil
        obtain ⟨p, rfl, hp⟩ := en_of_trod hy
        obtain ⟨v0, hv0, hw0⟩ := hc 0 (by decide)
        obtain ⟨v1, hv1, hw1⟩ := hc 1 (by decide)
        obtain ⟨v2, hv2, hw2⟩ := hc 2 (by decide)
        simp at hv0 hv1 hv2
        subst hv0 hv1 hv2
        exact ⟨p, fun _ => ⟨hw0, by rw [Nat.add_assoc]; exact hw1, by rw [Nat.add_assoc]; exact hw2, hp⟩⟩
      · exact ⟨((0, 0, []), undef), fun h => absurd h hil⟩
    obtain ⟨E, hE⟩ := Classical.skolem.1 hx
    refine ⟨_, mkL len fun i => (E i).1, rfl, some ⟨g, off, none⟩, cap, by rw [mkL_len], by rw [mkL_len]; exact h1, h2, h3, ⟨Or.inr ⟨g, off, fun i => (E i).2, rfl, hg, fun i e he => ?_⟩⟩⟩
    obtain ⟨hil, rfl⟩ := mkL_get he
    exact hE i hil
theorem argMsg {b0 : Nat} {r : Reach} {v : Value} {d : DataW H} {p : List MemPlace} (h : Value.okWide Tryd.prog w r b0 41 v) (hd : DataW.Trod enc Tryd.prog w base sp held 41 v d p) : ∃ m : Ms, MsV w v m := by
  obtain ⟨cs, rfl, _⟩ := okWide_struct Tryd.underlying41 h
  obtain ⟨fuel, hf⟩ := hd
  obtain ⟨xs, m, _, _, hl, hxl, hel⟩ := DataW.trod_struct Tryd.underlying41 hf
  rw [cmsg] at hl
  have hxl' : xs.length = 10 := hxl
  obtain ⟨ds, hds⟩ : ∃ ds : List Value, (Value.cells (.agg cs)).toList = ds := ⟨_, rfl⟩
  rw [hds] at hl hel
  have e0 : DataW.trod enc Tryd.prog w base sp held m 3 ((ds.drop 0).take (Tryd.prog.cellsOf 3)) = xs[0]? := hel 0 _ rfl
  have e1 : DataW.trod enc Tryd.prog w base sp held m 3 ((ds.drop 1).take (Tryd.prog.cellsOf 3)) = xs[1]? := hel 1 _ rfl
  have e2 : DataW.trod enc Tryd.prog w base sp held m 3 ((ds.drop 2).take (Tryd.prog.cellsOf 3)) = xs[2]? := hel 2 _ rfl
  have e3 : DataW.trod enc Tryd.prog w base sp held m 25 ((ds.drop 3).take (Tryd.prog.cellsOf 25)) = xs[3]? := hel 3 _ rfl
  have e4 : DataW.trod enc Tryd.prog w base sp held m 35 ((ds.drop 4).take (Tryd.prog.cellsOf 35)) = xs[4]? := hel 4 _ rfl
  have e5 : DataW.trod enc Tryd.prog w base sp held m 36 ((ds.drop 6).take (Tryd.prog.cellsOf 36)) = xs[5]? := hel 5 _ rfl
  have e6 : DataW.trod enc Tryd.prog w base sp held m 25 ((ds.drop 7).take (Tryd.prog.cellsOf 25)) = xs[6]? := hel 6 _ rfl
  have e7 : DataW.trod enc Tryd.prog w base sp held m 4 ((ds.drop 8).take (Tryd.prog.cellsOf 4)) = xs[7]? := hel 7 _ rfl
  have e8 : DataW.trod enc Tryd.prog w base sp held m 39 ((ds.drop 9).take (Tryd.prog.cellsOf 39)) = xs[8]? := hel 8 _ rfl
  have e9 : DataW.trod enc Tryd.prog w base sp held m 27 ((ds.drop 10).take (Tryd.prog.cellsOf 27)) = xs[9]? := hel 9 _ rfl
  rw [cint] at e0 e1 e2
  rw [c1u64] at e3 e6
  rw [cat_] at e4
  rw [cents] at e5
  rw [cbool] at e7
  rw [cconf] at e8
  rw [c1rb] at e9
  rw [List.getElem?_eq_getElem (by omega)] at e0 e1 e2 e3 e4 e5 e6 e7 e8 e9
  obtain ⟨kd, h0⟩ := int_of_trod e0
  obtain ⟨fr, h1⟩ := int_of_trod e1
  obtain ⟨to, h2⟩ := int_of_trod e2
  obtain ⟨tm, h3⟩ := u64_of_trod e3
  obtain ⟨ev, es, h5, s5⟩ := ents_of_trod e5
  obtain ⟨cm, h6⟩ := u64_of_trod e6
  obtain ⟨ok, h7, _⟩ := DataW.trod_bool Tryd.underlying4 e7
  obtain ⟨dv, da, h9, s9⟩ := bytes_of_trod e9
  obtain ⟨a0, a1, a2, a3, a4, a5, a6, a7, a8, a9, a10, rfl⟩ : ∃ a0 a1 a2 a3 a4 a5 a6 a7 a8 a9 a10, ds = [a0, a1, a2, a3, a4, a5, a6, a7, a8, a9, a10] := by
    match ds, hl with
    | [a0, a1, a2, a3, a4, a5, a6, a7, a8, a9, a10], _ => exact ⟨a0, a1, a2, a3, a4, a5, a6, a7, a8, a9, a10, rfl⟩
  obtain ⟨ys, m4, _, _, hl4, hyl, hel4⟩ := DataW.trod_struct Tryd.underlying35 e4
  have hyl' : ys.length = 2 := hyl
  have q0 : DataW.trod enc Tryd.prog w base sp held m4 25 ((([a4, a5] : List Value).drop 0).take (Tryd.prog.cellsOf 25)) = ys[0]? := hel4 0 _ rfl
  have q1 : DataW.trod enc Tryd.prog w base sp held m4 25 ((([a4, a5] : List Value).drop 1).take (Tryd.prog.cellsOf 25)) = ys[1]? := hel4 1 _ rfl
  rw [c1u64] at q0 q1
  rw [List.getElem?_eq_getElem (by omega)] at q0 q1
  obtain ⟨pi, g0⟩ := u64_of_trod q0
  obtain ⟨pt, g1⟩ := u64_of_trod q1
  obtain ⟨zs, m8, _, _, hl8, hzl, hel8⟩ := DataW.trod_struct Tryd.underlying39 e8
  have hzl' : zs.length = 1 := hzl
  have q8 : DataW.trod enc Tryd.prog w base sp held m8 37 ((([a9] : List Value).drop 0).take (Tryd.prog.cellsOf 37)) = zs[0]? := hel8 0 _ rfl
  rw [cints] at q8
  rw [List.getElem?_eq_getElem (by omega)] at q8
  obtain ⟨mv, mb, h8, s8⟩ := ints_of_trod q8
  simp at h0 h1 h2 h3 h5 h6 h7 h8 h9 g0 g1
  subst h0 h1 h2 h3 h5 h6 h7 h8 h9 g0 g1
  have hcs : cs = #[I kd, I fr, I to, L tm, L pi, L pt, a6, L cm, .bool ok, a9, a10] := by simpa [Value.cells] using congrArg List.toArray hds
  exact ⟨⟨kd, fr, to, tm, pi, pt, es, cm, ok, mb, da⟩, _, _, _, by rw [hcs], s5, s8, s9⟩
end
end Go.Proofs.YtpcfkjeikhehaaaDoor
