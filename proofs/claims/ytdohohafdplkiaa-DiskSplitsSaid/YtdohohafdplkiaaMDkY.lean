import Derived.Test.YtdohohafdplkiaaMDkO
import Derived.Shelf.RegionOpenPlain

/- Sync. -/
set_option linter.unusedSimpArgs false
set_option linter.unusedVariables false
set_option maxRecDepth 20000
namespace Go.Proofs.Ytdohohafdplkiaa
open Go.RowKit
theorem yes_any (k : Nat) (w : World) : Calls Try.prog 50 #[I k] w (Post w (.bool true)) := by
  go_enter Try.func50, Try.ntmps50
  go_wp2
  go_ret
  exact post_mk' rfl (by (try show Ex _ _); repeat (first | (with_reducible exact ex_refl _) | (with_reducible assumption) | (with_reducible refine ex_drewL ?_) | (with_reducible refine ex_appR ?_ _) | (with_reducible refine ex_wx ?_ _) | (with_reducible refine ex_drew ?_) | (with_reducible refine ex_alloc ?_ _)))
theorem syncfn_any {W : World} {L : Loc} {d : Dk} (h : DkAt W L d) (bd : Nat) (hd : W.heap[bd]? = some (.cells #[PT L.p] 24 (0, 0))) :
    Calls Try.prog 49 #[PT bd] W fun e W' => e = .returned (.tuple #[]) ∧ ∃ L', DkAt W' L' { d with has := doQ d.has 0 d.qu (fun _ => true), qu := [] } ∧ Dv L W L' W' := by
  have hdc := (block_cell (o := 0) (v := PT L.p) hd rfl).1
  have hdz := (Array.getElem?_eq_some_iff.1 hd).1
  have HD := Lib.hid (fun W' (k : Ex W W') => doesS_any (h.ex k) (fun _ => true) fun V _ k _ => yes_any k V)
  clear hd h
  go_enter Try.func49, Try.ntmps49
  go_wp2_with (go_at_call 42; (with_reducible refine (HD.out _ (by (try show Ex _ _); repeat (first | (with_reducible exact ex_refl _) | (with_reducible assumption) | (with_reducible refine ex_drewL ?_) | (with_reducible refine ex_appR ?_ _) | (with_reducible refine ex_wx ?_ _) | (with_reducible refine ex_drew ?_) | (with_reducible refine ex_alloc ?_ _)))).mono ?_); rintro e w2 ⟨rfl, L', hW, hV⟩; replace hW := Lib.hid hW; replace hV := Lib.hid hV)
  go_end0
  exact ⟨rfl, L', hW.out, (Dv.ofEx (by (try show Ex _ _); repeat (first | (with_reducible exact ex_refl _) | (with_reducible assumption) | (with_reducible refine ex_drewL ?_) | (with_reducible refine ex_appR ?_ _) | (with_reducible refine ex_wx ?_ _) | (with_reducible refine ex_drew ?_) | (with_reducible refine ex_alloc ?_ _)))).trans hV.out⟩
set_option maxHeartbeats 1000000 in
theorem sync_any {w : World} {L : Loc} {d : Dk} (h : DkAt w L d) (hops : d.ops < 1000000000) :
    Calls Try.prog 28 #[PT L.p] w (PostD w L (syncD d).1 (I (syncD d).2)) := by
  obtain ⟨w1, hw1⟩ : ∃ w1, w.alloc (.cells #[PT L.p] 24) = w1 := ⟨_, rfl⟩
  have k1 : Ex w w1 := by rw [← hw1]; exact ex_alloc (ex_refl _) _
  have r0 : w1.heap[w.heap.size]? = some (.cells #[PT L.p] 24 (0, 0)) := by rw [← hw1]; exact heap_alloc_new w _
  have hs1 : w.heap.size < w1.heap.size := (Array.getElem?_eq_some_iff.1 r0).1
  have hown : ∀ b, L.own b → b < w.heap.size := fun b hb => h.lt hb
  have HQ : Calls Try.prog 45 #[PT L.p, I 0, .bool true, .func (.func 49) #[] #[PT w.heap.size]] w1 (PostD w L (syncD d).1 (I (syncD d).2)) := by
    refine (requestS_any (h.ex k1) 0 (by omega) (by omega) true _ (fun W => ∃ L', DkAt W L' { (reqD d 0 true).1 with has := doQ d.has 0 d.qu (fun _ => true), qu := [] } ∧ Dv L w L' W) hops ?_ ?_).mono ?_
    · intro hr W hW hD
      have hsm := req_same d 0 true
      have hsame := hD.same w.heap.size hs1 fun e => by have := hown _ e; omega
      refine (syncfn_any hW w.heap.size (hsame.trans r0)).mono ?_
      rintro e W' ⟨rfl, L', hD', hV⟩
      rw [hsm.2.1, hsm.1] at hD'
      exact ⟨rfl, L', hD', ((Dv.ofEx k1).trans hD).trans hV⟩
    · rintro W ⟨L', hW, hV⟩
      have hW := hW.ops
      rw [hV.pp] at hW
      have hsm := (req_same d 0 true).2.2
      exact ⟨by rw [← hsm]; exact hW.1, hW.2⟩
    · rintro e w' (⟨hr, rfl, hW, hD⟩ | ⟨hr, rfl, W, ⟨L', hW, hD⟩, rfl⟩)
      · have hrd : syncD d = reqD d 0 true := by unfold syncD; rw [if_neg hr]
        rw [hrd]
        exact ⟨L, rfl, hW, (Dv.ofEx k1).trans hD⟩
      · have hrd : syncD d = (incD { (reqD d 0 true).1 with has := doQ d.has 0 d.qu (fun _ => true), qu := [] }, 0) := by unfold syncD; rw [if_pos hr]
        rw [hrd]
        obtain ⟨qv, hM⟩ := hW.out
        refine ⟨L', rfl, ⟨qv, ?_⟩, ?_⟩
        · have := hM.setOps (n := d.ops + 1) (by omega)
          rw [hD.pp] at this
          unfold incD
          simp only
          rw [(req_same d 0 true).2.2]
          exact this
        · have := hD.setP 5 (I ((d.ops : Int) + 1))
          rw [hD.pp] at this
          exact this
  have HQ2 : Hid (Calls Try.prog 45 #[PT L.p, I 0, .bool true, .func (.func 49) #[] #[PT w.heap.size]] (w.alloc (.cells #[PT L.p] 24)) (PostD w L (syncD d).1 (I (syncD d).2))) := Lib.hid (by rw [hw1]; exact HQ)
  clear hw1 r0 hown k1 h HQ hs1
  go_enter Try.func28, Try.ntmps28
  go_wp2_with (go_at_call 45; (with_reducible refine HQ2.out.mono ?_); rintro e w2 ⟨L', rfl, hW, hD⟩; replace hW := Lib.hid hW; replace hD := Lib.hid hD)
  go_ret
  exact ⟨L', rfl, hW.out, hD.out⟩
theorem req_nil (i : Int) (ch : Bool) (f : Value) (w : World) : Calls Try.prog 45 #[.pointer none, I i, .bool ch, f] w (Post w (I 1)) := by
  go_enter Try.func45, Try.ntmps45
  go_wp2_with (go_at_call 44; (with_reducible refine (lit_nil _).mono ?_); rintro e w2 ⟨rfl, X, rfl⟩)
  go_ret
  exact post_mk' rfl (by (try show Ex _ _); repeat (first | (with_reducible exact ex_refl _) | (with_reducible assumption) | (with_reducible refine ex_drewL ?_) | (with_reducible refine ex_appR ?_ _) | (with_reducible refine ex_wx ?_ _) | (with_reducible refine ex_drew ?_) | (with_reducible refine ex_alloc ?_ _)))
theorem sync_nil (w : World) : Calls Try.prog 28 #[.pointer none] w (Post w (I 1)) := by
  go_enter Try.func28, Try.ntmps28
  go_wp2_with (go_at_call 45; (with_reducible refine (req_nil _ _ _ _).mono ?_); rintro e w2 ⟨rfl, X, rfl⟩)
  go_ret
  exact post_mk' rfl (by (try show Ex _ _); repeat (first | (with_reducible exact ex_refl _) | (with_reducible assumption) | (with_reducible refine ex_drewL ?_) | (with_reducible refine ex_appR ?_ _) | (with_reducible refine ex_wx ?_ _) | (with_reducible refine ex_drew ?_) | (with_reducible refine ex_alloc ?_ _)))
theorem write_nil (i : Int) (b : Bk) (w : World) : Calls Try.prog 25 #[.pointer none, I i, .agg (rowB 64 (bkF b))] w (Post w (I 1)) := by
  go_enter Try.func25, Try.ntmps25
  go_wp2_with (go_at_call 45; (with_reducible refine (req_nil _ _ _ _).mono ?_); rintro e w2 ⟨rfl, X, rfl⟩)
  go_ret
  exact post_mk' rfl (by (try show Ex _ _); repeat (first | (with_reducible exact ex_refl _) | (with_reducible assumption) | (with_reducible refine ex_drewL ?_) | (with_reducible refine ex_appR ?_ _) | (with_reducible refine ex_wx ?_ _) | (with_reducible refine ex_drew ?_) | (with_reducible refine ex_alloc ?_ _)))
theorem read_nil (i : Int) (w : World) : Calls Try.prog 21 #[.pointer none, I i] w (Post w (.tuple #[.agg (rowB 64 (bkF zeroB)), I 1])) := by
  rw [zeroB_row]
  go_enter Try.func21, Try.ntmps21
  go_wp2_with (go_at_call 45; (with_reducible refine (req_nil _ _ _ _).mono ?_); rintro e w2 ⟨rfl, X, rfl⟩)
  refine ret_rowV (cs := rowB 64 fun _ => 0) Try.results21 Try.underlying39 rfl info_blk rfl (by simp [go_sem]) rfl rfl (post_mk' rfl (by (try show Ex _ _); repeat (first | (with_reducible exact ex_refl _) | (with_reducible assumption) | (with_reducible refine ex_drewL ?_) | (with_reducible refine ex_appR ?_ _) | (with_reducible refine ex_wx ?_ _) | (with_reducible refine ex_drew ?_) | (with_reducible refine ex_alloc ?_ _))))
end Go.Proofs.Ytdohohafdplkiaa

/- New disks. -/
set_option linter.unusedSimpArgs false
set_option linter.unusedVariables false
set_option maxRecDepth 20000
namespace Go.Proofs.Ytdohohafdplkiaa
open Go.RowKit
theorem appBlk : AppT Try.prog 29 39 64 64 (.agg (rowB 64 fun _ => 0)) := ⟨Try.underlying29, by kernel_rfl, by simp [Value.cells], by decide⟩
@[go_sem] theorem make_blk (l c : Int) (w : World) : (Instr.makeSlice 29 (.int .i64 l) (.int .i64 c)).run Try.prog w = if 0 ≤ l ∧ l ≤ c ∧ ((64 : Nat) : Int) * c ≤ 281474976710656 ∧ c ≤ 9223372036854775807 then
    .ok (.slice (some ⟨w.heap.size, 0, none⟩) l.toNat c.toNat) (w.alloc (.cells (manyC (.agg (rowB 64 fun _ => 0)) (c.toNat * 64)) 39)) else makeRaw Try.prog 29 (.int .i64 l) (.int .i64 c) w := make_rule appBlk l c w
theorem own_zero (n : Nat) (h : n ≤ 2048) {w w' : World} {g : Nat} (hg : g = w.heap.size) (k : Ex (w.alloc (.cells (manyC (.agg (rowB 64 fun _ => 0)) (n * 64)) 39)) w') : w'.ownsRow 0 39 64 (.slice (some ⟨g, 0, none⟩) n n) n ((List.replicate n zeroB).flatMap KK) := by
  refine owns_ex (owns_new hg (Nat.zero_le _) (Nat.le_refl _) (by unfold maxLen; omega) (by rw [manyC_size]) ?_) k
  have hz : (Value.agg (rowB 64 fun _ => 0)).cells.toList = KK zeroB := by unfold KK; rw [zeroB_row]; rfl
  rw [← manyC_flat KK_len (by omega) hz n, List.take_of_length_le]
  rw [Array.length_toList, manyC_size]; exact Nat.le_refl _
set_option maxHeartbeats 1000000 in
theorem new_any (n : Nat) (h1 : 1 ≤ n) (h2 : n ≤ 2048) (w : World) : Calls Try.prog 10 #[I n] w fun e w' => ∃ L, e = .returned (.tuple #[PT L.p, I 0]) ∧ DkAt w' L (newD n) ∧ Ex w w' ∧ ∀ b, L.own b → w.heap.size ≤ b := by
  have e1 : (1 : Int) ≤ n := by omega
  have e2 : (n : Int) ≤ 2048 := by omega
  have e3 : 64 * (n : Int) ≤ 281474976710656 := by omega
  have e4 : (n : Int) ≤ 9223372036854775807 := by omega
  go_enter Try.func10, Try.ntmps10
  go_wp2
  go_ret2
  have k : Ex w ((w.alloc (.cells (manyC (.agg (rowB 64 fun _ => 0)) (n * 64)) 39)).alloc (.cells #[.slice (some ⟨w.heap.size, 0, none⟩) n n, .slice none 0 0, I (-1), I (-1), .bool false, I 0] 70)) := ex_alloc (ex_alloc (ex_refl _) _) _
  refine ⟨⟨w.heap.size + 1, w.heap.size, none⟩, rfl, ⟨.slice none 0 0, ?_, ?_, owns_nil _ _ _ _, rfl, (by simp), (fun e => by cases e), (fun e => by cases e), new_ok h1 h2⟩, k, ?_⟩
  · have := heap_alloc_new (w.alloc (.cells (manyC (.agg (rowB 64 fun _ => 0)) (n * 64)) 39)) (.cells #[.slice (some ⟨w.heap.size, 0, none⟩) n n, .slice none 0 0, I (-1), I (-1), .bool false, I 0] 70)
    rw [World.size_alloc] at this
    simp only [newD, List.length_replicate]
    exact this
  · simp only [newD, List.length_replicate]
    exact own_zero n h2 rfl (ex_alloc (ex_refl _) _)
  · rintro b (rfl | rfl | h)
    · simp
    · exact Nat.le_refl _
    · cases h
theorem new_bad (n : Int) (h : ¬ (1 ≤ n ∧ n ≤ 2048)) (w : World) : Calls Try.prog 10 #[I n] w (Post w (.tuple #[.pointer none, I 2])) := by
  rcases (show n < 1 ∨ (1 ≤ n ∧ 2048 < n) by omega) with h1 | ⟨h1, h2⟩
  all_goals
    go_enter Try.func10, Try.ntmps10
    go_wp2
    go_ret2
    exact post_mk' rfl (by (try show Ex _ _); repeat (first | (with_reducible exact ex_refl _) | (with_reducible assumption) | (with_reducible refine ex_drewL ?_) | (with_reducible refine ex_appR ?_ _) | (with_reducible refine ex_wx ?_ _) | (with_reducible refine ex_drew ?_) | (with_reducible refine ex_alloc ?_ _)))
end Go.Proofs.Ytdohohafdplkiaa

/- Pending: the sectors of the writes that wait. -/
set_option linter.unusedSimpArgs false
set_option linter.unusedVariables false
set_option maxRecDepth 20000
namespace Go.Proofs.Ytdohohafdplkiaa
open Go.RowKit
attribute [local go_sem] Oper.semAt_some
def KZ (i : Int) : List Value := [I i]
theorem KZ_len (i : Int) : (KZ i).length = 1 := rfl
def OwnZ (w : World) (Z : Nat) (v : Value) (l : List Int) : Prop := w.ownsRow Z 3 1 v l.length (l.flatMap KZ)
theorem appInt : AppT Try.prog 54 3 1 8 (.int .i64 0) := ⟨Try.underlying54, by kernel_rfl, rfl, by decide⟩
theorem KZ_one (l : List Int) : ∀ u ∈ l.flatMap KZ, u.oneCell' = true := by
  intro u hu
  simp only [List.mem_flatMap] at hu
  obtain ⟨d, _, hd⟩ := hu
  obtain rfl : u = I d := by simpa [KZ] using hd
  rfl
theorem own_form {w : World} {Z : Nat} {t : TypeId} {s : Nat} {v : Value} {n : Nat} {xs : List Value} (h : w.ownsRow Z t s v n xs) : ∃ a c, v = .slice a n c ∧ n ≤ c ∧ c ≤ maxLen ∧ (a = none → c = 0) := by
  rcases h.2 with ⟨rfl, rfl⟩ | ⟨g, cap, cur, rfl, h1, h2, h3, h4, h5, h6⟩
  · exact ⟨none, 0, rfl, by omega, by decide, fun _ => rfl⟩
  · exact ⟨_, cap, rfl, h3, h4, fun h => by cases h⟩
set_option maxHeartbeats 1000000 in
theorem revz_any {Z : Nat} (l : List Int) (v : Value) (w : World) (hown : OwnZ w Z v l) (hl : l.length ≤ 1000000) :
    Calls Try.prog 47 #[v] w fun e w' => e = .returned (.tuple #[]) ∧ OwnZ w' Z v l.reverse ∧ Below Z w w' ∧ Frm (fun b => v.ownBlock = some b) w w' := by
  obtain ⟨a, c, rfl, k1, k2, k3⟩ := own_form hown
  generalize hn : l.length = n at hl k1
  have HN : Hid (l.length = n) := Lib.hid hn
  unfold OwnZ at hown ⊢
  rw [List.length_reverse]
  rw [hn] at hown ⊢
  clear hn
  go_enter Try.func47, Try.ntmps47
  go_wp2
  go_loopw [2, 3] (fun i j W => ∃ (q : Nat) (m : List Int), q ≤ n ∧ i = I q ∧ j = I ((n : Int) - 1 - q) ∧ Hid (Turned l m q) ∧ Hid (W.ownsRow Z 3 1 (.slice a n c) n (m.flatMap KZ)) ∧ Hid (Below Z w W) ∧ Hid (Frm (fun b => (Value.slice a n c).ownBlock = some b) w W)) (fun i _ _ => n - (intOf i).toNat)
  case atStart => exact ⟨0, l, by omega, rfl, by simp, Lib.hid (turned_start l), Lib.hid hown, Lib.hid (Below.refl _ _), Lib.hid (Frm.refl _ _)⟩
  case round =>
    obtain ⟨q, m, hq, rfl, rfl, HT, HO, HB, HF⟩ := hrel
    by_cases hlt : (q : Int) < (n : Int) - 1 - q
    · have hln := HN.out
      have hml := HT.out.len
      obtain ⟨g, cap, cur, hv, _⟩ := own_block HO.out (by omega) (by omega)
      obtain ⟨rfl, rfl⟩ : a = some ⟨g, 0, none⟩ ∧ c = cap := by simpa using hv
      obtain ⟨x, hx⟩ : ∃ x, m[q]? = some x := ⟨_, List.getElem?_eq_getElem (by omega)⟩
      obtain ⟨y, hy⟩ : ∃ y, m[n - 1 - q]? = some y := ⟨_, List.getElem?_eq_getElem (by omega)⟩
      obtain ⟨c1, f1, z1, z2⟩ := own_at KZ_len HO.out hx
      obtain ⟨c2, f2, _, _⟩ := own_at KZ_len HO.out hy
      have d1 := (cellsN_some.1 c1).2 0 (by omega)
      have d2 := (cellsN_some.1 c2).2 0 (by omega)
      have g1 := frozenN_false.1 f1 0 (by omega)
      have g2 := frozenN_false.1 f2 0 (by omega)
      rw [Nat.mul_one, Nat.add_zero] at d1 d2 g1 g2
      replace d1 : wr.cell? ⟨g, q, none⟩ = some (I x) := d1
      have e1 : ((n : Int) - 1 - q) = ((n - 1 - q : Nat) : Int) := by omega
      have hO2 := own_set KZ_len (by omega) HO.out y (i := q) (by omega)
      have hO3 := own_set KZ_len (by omega) hO2.1 x (i := n - 1 - q) (by simp; omega)
      have HO3 := Lib.hid hO3
      have HB3 : Hid (Below Z w _) := Lib.hid ((HB.out.trans hO2.2).trans hO3.2)
      have HF3 : Hid (Frm (fun b => (Value.slice (some ⟨g, 0, none⟩) n c).ownBlock = some b) w _) := Lib.hid ((HF.out.sets (b := g) rfl (q * 1) (KZ y)).sets (b := g) rfl ((n - 1 - q) * 1) (KZ x))
      have HT3 := Lib.hid (turned_step HT.out (by omega) (by omega) hx hy)
      generalize hJ : n - 1 - q = J at e1 d2 g2 HO3 HB3 HT3 HF3
      replace d2 : wr.cell? ⟨g, J, none⟩ = some (I y) := d2
      have j1 : (q : Int) < n := by omega
      have j2 : (J : Int) < n := by omega
      have j3 : (0 : Int) ≤ J := by omega
      clear hO2 hO3 hv hln hml hx hy HN HT HO HB HF hJ c1 c2 f1 f2
      rw [e1] at hlt ⊢
      go_wp2
      have mixed : Try.prog.follows .mixedOrders = true := by kernel_rfl
      go_big_region_o
      all_goals go_wp2
      refine ⟨⟨q + 1, (m.set q y).set J x, by omega, by go_num, ?_, HT3, ?_, ?_, ?_⟩, by simp [intOf]; omega⟩
      · congr 1; omega
      · have := HO3.out.1; rw [Nat.mul_one, Nat.mul_one] at this; exact Lib.hid (owns_drew this)
      · have := HB3.out; rw [Nat.mul_one, Nat.mul_one] at this; exact Lib.hid this.drew
      · have := HF3.out; rw [Nat.mul_one, Nat.mul_one] at this; exact Lib.hid (this.trans (Frm.ex (ex_drew (ex_refl _))))
    · have hl2 := HN.out
      have he := turned_end HT.out (by omega)
      rw [he] at HO
      clear he HT hq hown
      go_wp2
      go_end0
      exact ⟨rfl, HO.out, HB.out, HF.out⟩
end Go.Proofs.Ytdohohafdplkiaa
