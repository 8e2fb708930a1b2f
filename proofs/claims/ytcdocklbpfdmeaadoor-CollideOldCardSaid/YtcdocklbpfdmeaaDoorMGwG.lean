import Derived.Test.YtcdocklbpfdmeaaDoorMDoA
import Derived.Test.YtcdocklbpfdmeaaDoorMForkK

/- Collide's document: grow, where it ends. -/
set_option linter.unusedSimpArgs false
set_option linter.unusedVariables false
set_option linter.unnecessarySimpa false
set_option maxRecDepth 20000
namespace Go.Proofs.YtcdocklbpfdmeaaDoor
open Go.RowKit
theorem Cd.allocR {w : World} {p : Nat} {c : Cl} (h : Cd w p c) (o : Obj) : Cd (w.alloc o) p c := h.ex (ex_alloc (ex_refl _) _)
theorem Cd.wxR {w : World} {p : Nat} {c : Cl} (h : Cd w p c) (X : More) : Cd (wx w X) p c := h.ex ⟨X, rfl⟩
theorem Cd.drewR {w : World} {p : Nat} {c : Cl} (h : Cd w p c) : Cd w.drew p c := h.ex (ex_drew (ex_refl _))
theorem Cd.setsR {w : World} {p : Nat} {c : Cl} {r : Nat} (h : Cd w p c) (hr : IdB w r) (o : Nat) (vs : List Value) : Cd (w.setCells r o vs) p c := by
  obtain ⟨cs, fr, hr⟩ := hr.out
  exact h.frm (nod_id hr) (frm_sets o vs)
theorem k_endD2 {p r1 r2 : Nat} {w A w5 : World} {c : Cl} {g1 g2 : Nat → UInt8} (h1 : w.heap.size ≤ r1) (h2 : w.heap.size ≤ r2) (h12 : r1 ≠ r2) (hr1 : A.heap[r1]? = some (.cells (rowB 32 g1) 46 (0, 0))) (hr2 : A.heap[r2]? = some (.cells (rowB 32 g2) 46 (0, 0)))
    (kw : FrP p w A) (F5 : FrP p A w5) (K5 : Cd w5 p c) (hn1 : r1 ≠ p) (hn2 : r2 ≠ p) :
    (cellsN w5 r1 0 32 = some (rowB 32 g1) ∧ frozenN w5 r1 0 32 = false ∧ r1 < w5.heap.size) ∧
    (cellsN w5 r2 0 32 = some (rowB 32 g2) ∧ frozenN w5 r2 0 32 = false ∧ r2 < w5.heap.size) ∧
    ∀ x y : Dg, cellsN ((w5.setCells r1 0 (rowB 32 (dF x)).toList).setCells r2 0 (rowB 32 (dF y)).toList) r1 0 32 = some (rowB 32 (dF x)) ∧ cellsN ((w5.setCells r1 0 (rowB 32 (dF x)).toList).setCells r2 0 (rowB 32 (dF y)).toList) r2 0 32 = some (rowB 32 (dF y)) ∧
      FrP p w ((w5.setCells r1 0 (rowB 32 (dF x)).toList).setCells r2 0 (rowB 32 (dF y)).toList) ∧ Cd ((w5.setCells r1 0 (rowB 32 (dF x)).toList).setCells r2 0 (rowB 32 (dF y)).toList) p c := by
  have b1 := row_frm hr1 F5 hn1
  have b2 := row_frm hr2 F5 hn2
  refine ⟨block_cellsF b1 (by simp), block_cellsF b2 (by simp), fun x y => ?_⟩
  · have b3 := setCells_block r1 46 (0, 0) (rowB 32 (dF x)).toList 0 w5 _ b1
    rw [spliceA_all _ _ (by simp)] at b3
    have b4 := (setCells_heap r2 (rowB 32 (dF y)).toList 0 (w5.setCells r1 0 (rowB 32 (dF x)).toList) r1 h12).trans b3
    have b5 := (setCells_heap r1 (rowB 32 (dF x)).toList 0 w5 r2 (Ne.symm h12)).trans b2
    have b6 := setCells_block r2 46 (0, 0) (rowB 32 (dF y)).toList 0 _ _ b5
    rw [spliceA_all _ _ (by simp)] at b6
    refine ⟨(block_cellsF b4 (by simp)).1, (block_cellsF b6 (by simp)).1, ((kw.trans F5).setsNew h1 _ _).setsNew h2 _ _, (K5.setsR ⟨_, _, b1⟩ _ _).setsR ⟨_, _, b5⟩ _ _⟩
/-- Two rows in memory and a value handed back. -/
theorem ret_rowrowV {P : Program} {fn : Func} {p p2 q : Tmp} {ty : TypeId} {d : TypeDesc} {n b b2 : Nat} {cs cs2 : Array Value} {v : Value} {R : Ending → World → Prop} {a : Act} {w : World} (h : fn.results = #[.cell p ty, .cell p2 ty, .tmp q])
    (hu : P.underlying ty = some d) (hd : d.isRow = true) (hi : (P.info? ty).map (·.size) = some n) (hp : a.tmps.getD p undef = .pointer (some ⟨b, 0, none⟩)) (hc : cellsN w b 0 n = some cs) (hp2 : a.tmps.getD p2 undef = .pointer (some ⟨b2, 0, none⟩)) (hc2 : cellsN w b2 0 n = some cs2) (hq : a.tmps.getD q undef = v) (hdf : a.defers = [])
    (hR : R (.returned (.tuple #[.agg cs, .agg cs2, v])) w) : bodyPost P fn R .ret a w := by
  have h1 := (cellsN_some.1 hc).1
  have h2 := (cellsN_some.1 hc2).1
  have hrun := run_loadVar_mid (P := P) w b 0 ty cs.toList d (cellsN_range hc) hu hd (by rw [hi]; simp [h1])
  have hrun2 := run_loadVar_mid (P := P) w b2 0 ty cs2.toList d (cellsN_range hc2) hu hd (by rw [hi]; simp [h2])
  have hp' : a.tmps[p]?.getD undef = .pointer (some ⟨b, 0, none⟩) := by simpa using hp
  have hp2' : a.tmps[p2]?.getD undef = .pointer (some ⟨b2, 0, none⟩) := by simpa using hp2
  have hq' : a.tmps[q]?.getD undef = v := by simpa using hq
  exact bodyPost_ret (by simp [results, h, hp', hp2', hq', asAddr, hrun, hrun2]) hdf hR
def PostDG (p : Nat) (w : World) (o : Option (Dg × Dg × Cl)) (e : Ending) (w' : World) : Prop := ∃ xa xb c', e = .returned (.tuple #[.agg (rowB 32 (dF xa)), .agg (rowB 32 (dF xb)), .bool o.isSome]) ∧ FrP p w w' ∧ Cd w' p c' ∧ ∀ y, o = some y → y = (xa, xb, c')
/-- In the midst of grow: two new rows. -/
def midGd (A1 : World) (p : Nat) (o : Option (Dg × Dg × Cl)) (sa sb sc : Nat) (ks : List Nat) (a0 a' : Act) (w' : World) : Prop :=
  ∃ (xa xb : Dg) (c1 : Cl) (b17 b18 : Nat), a'.tmps.getD sa undef = .pointer (some ⟨b17, 0, none⟩) ∧ a'.tmps.getD sb undef = .pointer (some ⟨b18, 0, none⟩) ∧ a'.tmps.getD sc undef = .bool o.isSome ∧ a' = ks.foldl (fun a k => a.put (some k) (a'.tmps.getD k undef)) a0 ∧
    cellsN w' b17 0 32 = some (rowB 32 (dF xa)) ∧ cellsN w' b18 0 32 = some (rowB 32 (dF xb)) ∧ A1.heap.size ≤ b17 ∧ A1.heap.size ≤ b18 ∧ b17 < w'.heap.size ∧ b18 < w'.heap.size ∧ Cd w' p c1 ∧ FrP p A1 w' ∧ ∀ y, o = some y → y = (xa, xb, c1)
theorem midGd_mk {A1 : World} {p : Nat} {o : Option (Dg × Dg × Cl)} {xa xb : Dg} {c1 : Cl} {sa sb sc : Nat} {ks : List Nat} {a0 a' : Act} {w' : World} {b17 b18 : Nat} (h1 : a'.tmps.getD sa undef = .pointer (some ⟨b17, 0, none⟩)) (h2 : a'.tmps.getD sb undef = .pointer (some ⟨b18, 0, none⟩)) (h2' : a'.tmps.getD sc undef = .bool o.isSome) (h3 : a' = ks.foldl (fun a k => a.put (some k) (a'.tmps.getD k undef)) a0)
    (h4 : cellsN w' b17 0 32 = some (rowB 32 (dF xa))) (h5 : cellsN w' b18 0 32 = some (rowB 32 (dF xb))) (h6 : A1.heap.size ≤ b17) (h7 : A1.heap.size ≤ b18) (h8 : b17 < w'.heap.size) (h9 : b18 < w'.heap.size) (h10 : Cd w' p c1) (h11 : FrP p A1 w') (h12 : ∀ y, o = some y → y = (xa, xb, c1)) : midGd A1 p o sa sb sc ks a0 a' w' := ⟨xa, xb, c1, b17, b18, h1, h2, h2', h3, h4, h5, h6, h7, h8, h9, h10, h11, h12⟩
set_option maxHeartbeats 1000000 in
theorem dgrow_all {A : World} (W : Nat) {p : Nat} (N : Nat) (la : Option Addr) (lc : Nat) (old : Dg) (known : Bool) (proof : List Dg) (pa : Option Addr) (pc : Nat) (c : Cl) (w : World)
    (hN : N ≤ 1024) (hlc : N ≤ lc) (hlm : lc ≤ maxLen) (hpc : proof.length ≤ pc) (hpm : pc ≤ maxLen) (hpath : SlD w pa proof) (hk : Cd w p c) :
    Calls Tryd.prog 74 #[I W, .slice la N lc, I N, .agg (rowB 32 (dF old)), .bool known, .slice pa proof.length pc, .pointer (some ⟨p, 0, none⟩)] w
      (PostDG p w (if known then (if proof = [] then some (old, old, c) else none) else (loneD proof).map fun x => (x, x, c))) := by
  have HK := Lib.hid hk
  have hpw := hk.lt
  have e0 : ((N : Int) == N) = true := by simp
  cases known with
  | true =>
    rw [if_pos rfl]
    have hb : ((proof.length : Int) == 0) = (if proof = [] then some (old, old, c) else none).isSome := by cases proof <;> simp <;> omega
    have ho : Hid (∀ y, (if proof = [] then some (old, old, c) else none) = some y → y = (old, old, c)) := Lib.hid fun y h => by
      split at h
      · exact (Option.some.inj h).symm
      · cases h
    unfold PostDG
    generalize (if proof = [] then some (old, old, c) else none) = o at hb ho ⊢
    generalize o.isSome = bb at hb ⊢
    generalize proof.length = n at *
    clear hk hpath
    unfold maxLen at hlm hpm
    go_enter Tryd.func74, Tryd.ntmps74
    go_wp2
    refine wp_region_seqA (w.alloc (.cells (rowB 32 (dF old)) 46)) [(0, true), (1, true), (2, true), (3, true), (4, true), (5, false), (6, false), (7, true)] (by (try show Ex _ _); repeat (first | (with_reducible exact ex_refl _) | (with_reducible assumption) | (with_reducible refine ex_drewL ?_) | (with_reducible refine ex_appR ?_ _) | (with_reducible refine ex_wx ?_ _) | (with_reducible refine ex_drew ?_) | (with_reducible refine ex_alloc ?_ _))) (by kernel_rfl) (by kernel_rfl) (fun _ _ d _ _ h => by cases d <;> exact h) ?_
    simp only [List.map_cons, List.map_nil, nth]
    repeat (first | ((with_reducible refine wpSeq_look ?_); go_big_quiet_step (fail); (with_reducible refine wpQuiet_nil ?_)) | ((with_reducible refine wpSeq_effF ?_ ?_); (focus rfl); go_simp) | ((with_reducible refine wpSeq_eff ?_ ?_); (focus rfl); (try dsimp only); go_wp2_with (fail); refine mixQ_mk (by (try show Ex _ _); repeat (first | (with_reducible exact ex_refl _) | (with_reducible assumption) | (with_reducible refine ex_drewL ?_) | (with_reducible refine ex_appR ?_ _) | (with_reducible refine ex_wx ?_ _) | (with_reducible refine ex_drew ?_) | (with_reducible refine ex_alloc ?_ _))) ?_))
    refine wpSeq_nil ?_
    go_wp2
    exact ret_rowrowV (cs := rowB 32 (dF old)) (cs2 := rowB 32 (dF old)) Tryd.results74 Tryd.underlying46 rfl info_id rfl (by simp [go_sem]) rfl (by simp [go_sem]) rfl rfl ⟨_, _, c, rfl, Frm.ex (by (try show Ex _ _); repeat (first | (with_reducible exact ex_refl _) | (with_reducible assumption) | (with_reducible refine ex_drewL ?_) | (with_reducible refine ex_appR ?_ _) | (with_reducible refine ex_wx ?_ _) | (with_reducible refine ex_drew ?_) | (with_reducible refine ex_alloc ?_ _))), HK.out.ex (by (try show Ex _ _); repeat (first | (with_reducible exact ex_refl _) | (with_reducible assumption) | (with_reducible refine ex_drewL ?_) | (with_reducible refine ex_appR ?_ _) | (with_reducible refine ex_wx ?_ _) | (with_reducible refine ex_drew ?_) | (with_reducible refine ex_alloc ?_ _))), ho.out⟩
  | false =>
    rw [if_neg (by decide)]
    by_cases h1 : proof.length = 1
    · obtain ⟨y, rfl⟩ := List.length_eq_one_iff.1 h1
      have hlo : (loneD [y]).map (fun x => (x, x, c)) = some (y, y, c) := rfl
      rw [hlo]
      obtain ⟨g, off, rfl, hg, hcell⟩ := hpath.pos (by simp)
      have hc0 := hcell 0 y rfl
      rw [Nat.zero_mul, Nat.add_zero] at hc0
      clear hk hpath hlo hcell h1
      rw [List.length_singleton] at *
      unfold maxLen at hlm hpm
      go_enter Tryd.func74, Tryd.ntmps74
      go_wp2
      refine wp_region_seqA (w) [(0, true), (1, true), (2, true), (3, true), (4, true), (5, true), (6, false), (7, false), (8, true)] (by (try show Ex _ _); repeat (first | (with_reducible exact ex_refl _) | (with_reducible assumption) | (with_reducible refine ex_drewL ?_) | (with_reducible refine ex_appR ?_ _) | (with_reducible refine ex_wx ?_ _) | (with_reducible refine ex_drew ?_) | (with_reducible refine ex_alloc ?_ _))) (by kernel_rfl) (by kernel_rfl) (fun _ _ d _ _ h => by cases d <;> exact h) ?_
      simp only [List.map_cons, List.map_nil, nth]
      repeat (first | ((with_reducible refine wpSeq_look ?_); go_big_quiet_step (fail); (with_reducible refine wpQuiet_nil ?_)) | ((with_reducible refine wpSeq_effF ?_ ?_); (focus rfl); go_simp) | ((with_reducible refine wpSeq_eff ?_ ?_); (focus rfl); (try dsimp only); go_wp2_with (fail); refine mixQ_mk (by (try show Ex _ _); repeat (first | (with_reducible exact ex_refl _) | (with_reducible assumption) | (with_reducible refine ex_drewL ?_) | (with_reducible refine ex_appR ?_ _) | (with_reducible refine ex_wx ?_ _) | (with_reducible refine ex_drew ?_) | (with_reducible refine ex_alloc ?_ _))) ?_))
      refine wpSeq_nil ?_
      go_wp2
      exact ret_rowrowV (cs := rowB 32 (dF y)) (cs2 := rowB 32 (dF y)) Tryd.results74 Tryd.underlying46 rfl info_id rfl (by simp [go_sem]) rfl (by simp [go_sem]) rfl rfl ⟨_, _, c, rfl, Frm.ex (by (try show Ex _ _); repeat (first | (with_reducible exact ex_refl _) | (with_reducible assumption) | (with_reducible refine ex_drewL ?_) | (with_reducible refine ex_appR ?_ _) | (with_reducible refine ex_wx ?_ _) | (with_reducible refine ex_drew ?_) | (with_reducible refine ex_alloc ?_ _))), HK.out.ex (by (try show Ex _ _); repeat (first | (with_reducible exact ex_refl _) | (with_reducible assumption) | (with_reducible refine ex_drewL ?_) | (with_reducible refine ex_appR ?_ _) | (with_reducible refine ex_wx ?_ _) | (with_reducible refine ex_drew ?_) | (with_reducible refine ex_alloc ?_ _))), fun u hu => (Option.some.inj hu).symm⟩
    · have hlo : (loneD proof).map (fun x => (x, x, c)) = none := by
        match proof, h1 with
        | [], _ => rfl
        | [x], h => exact absurd rfl h
        | x :: z :: r, _ => rfl
      rw [hlo]
      have hb : ((proof.length : Int) == 1) = false := beq_eq_false_iff_ne.2 (by omega)
      generalize proof.length = n at *
      clear hk hpath hlo h1
      unfold maxLen at hlm hpm
      go_enter Tryd.func74, Tryd.ntmps74
      go_wp2
      exact ret_rowrowV (cs := rowB 32 fun _ => 0) (cs2 := rowB 32 fun _ => 0) Tryd.results74 Tryd.underlying46 rfl info_id rfl (by simp [go_sem]) rfl (by simp [go_sem]) rfl rfl ⟨zeroD, zeroD, c, by rw [row_zeroC]; rfl, Frm.ex (by (try show Ex _ _); repeat (first | (with_reducible exact ex_refl _) | (with_reducible assumption) | (with_reducible refine ex_drewL ?_) | (with_reducible refine ex_appR ?_ _) | (with_reducible refine ex_wx ?_ _) | (with_reducible refine ex_drew ?_) | (with_reducible refine ex_alloc ?_ _))), HK.out.ex (by (try show Ex _ _); repeat (first | (with_reducible exact ex_refl _) | (with_reducible assumption) | (with_reducible refine ex_drewL ?_) | (with_reducible refine ex_appR ?_ _) | (with_reducible refine ex_wx ?_ _) | (with_reducible refine ex_drew ?_) | (with_reducible refine ex_alloc ?_ _))), fun u hu => by cases hu⟩
end Go.Proofs.YtcdocklbpfdmeaaDoor
