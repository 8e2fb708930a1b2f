import Derived.Test.YtdohohafdplkiaaMDkO

/- Sync. -/
set_option linter.unusedSimpArgs false
set_option linter.unusedVariables false
set_option maxRecDepth 20000
namespace Go.Proofs.Ytdohohafdplkiaa
open Go.RowKit
theorem yes_any (k : Nat) (w : World) : Calls Try.prog 50 #[I k] w (Post w (.bool true)) := by
  go_enter Try.func50, Try.ntmps50
  go_wp2
  go_ret
  exact post_mk' rfl (by (try show Ex _ _); repeat (first | (with_reducible exact ex_refl _) | (with_reducible assumption) | (with_reducible refine ex_drewL ?_) | (with_reducible refine ex_appR ?_ _) | (with_reducible refine ex_wx ?_ _) | (with_reducible refine ex_drew ?_) | (with_reducible refine ex_alloc ?_ _)))
theorem syncfn_any {W : World} {L : Loc} {d : Dk} (h : DkAt W L d) (bd : Nat) (hd : W.heap[bd]? = some (.cells #[PT L.p] 24 (0, 0))) :
    Calls Try.prog 49 #[PT bd] W fun e W' => e = .returned (.tuple #[]) ∧ ∃ L', DkAt W' L' { d with has := doQ d.has 0 d.qu (fun _ => true), qu := [] } ∧ Dv L W L' W' := by
  have hdc := (block_cell (o := 0) (v := PT L.p) hd rfl).1
  have hdz := (Array.getElem?_eq_some_iff.1 hd).1
  have HD := Lib.hid (fun W' (k : Ex W W') => doesS_any (h.ex k) (fun _ => true) fun V _ k _ => yes_any k V)
  clear hd h
  go_enter Try.func49, Try.ntmps49
  go_wp2_with (go_at_call 42; (with_reducible refine (HD.out _ (by (try show Ex _ _); repeat (first | (with_reducible exact ex_refl _) | (with_reducible assumption) | (with_reducible refine ex_drewL ?_) | (with_reducible refine ex_appR ?_ _) | (with_reducible refine ex_wx ?_ _) | (with_reducible refine ex_drew ?_) | (with_reducible refine ex_alloc ?_ _)))).mono ?_); rintro e w2 ⟨rfl, L', hW, hV⟩; replace hW := Lib.hid hW; replace hV := Lib.hid hV)
  go_end0
  exact ⟨rfl, L', hW.out, (Dv.ofEx (by (try show Ex _ _); repeat (first | (with_reducible exact ex_refl _) | (with_reducible assumption) | (with_reducible refine ex_drewL ?_) | (with_reducible refine ex_appR ?_ _) | (with_reducible refine ex_wx ?_ _) | (with_reducible refine ex_drew ?_) | (with_reducible refine ex_alloc ?_ _)))).trans hV.out⟩
set_option maxHeartbeats 1000000 in
theorem sync_any {w : World} {L : Loc} {d : Dk} (h : DkAt w L d) (hops : d.ops < 1000000000) :
    Calls Try.prog 28 #[PT L.p] w (PostD w L (syncD d).1 (I (syncD d).2)) := by
  obtain ⟨w1, hw1⟩ : ∃ w1, w.alloc (.cells #[PT L.p] 24) = w1 := ⟨_, rfl⟩
  have k1 : Ex w w1 := by rw [← hw1]; exact ex_alloc (ex_refl _) _
  have r0 : w1.heap[w.heap.size]? = some (.cells #[PT L.p] 24 (0, 0)) := by rw [← hw1]; exact heap_alloc_new w _
  have hs1 : w.heap.size < w1.heap.size := (Array.getElem?_eq_some_iff.1 r0).1
  have hown : ∀ b, L.own b → b < w.heap.size := fun b hb => h.lt hb
  have HQ : Calls Try.prog 45 #[PT L.p, I 0, .bool true, .func (.func 49) #[] #[PT w.heap.size]] w1 (PostD w L (syncD d).1 (I (syncD d).2)) := by
    refine (requestS_any (h.ex k1) 0 (by omega) (by omega) true _ (fun W => ∃ L', DkAt W L' { (reqD d 0 true).1 with has := doQ d.has 0 d.qu (fun _ => true), qu := [] } ∧ Dv L w L' W) hops ?_ ?_).mono ?_
    · intro hr W hW hD
      have hsm := req_same d 0 true
      have hsame := hD.same w.heap.size hs1 fun e => by have := hown _ e; omega
      refine (syncfn_any hW w.heap.size (hsame.trans r0)).mono ?_
      rintro e W' ⟨rfl, L', hD', hV⟩
      rw [hsm.2.1, hsm.1] at hD'
      exact ⟨rfl, L', hD', ((Dv.ofEx k1).trans hD).trans hV⟩
    · rintro W ⟨L', hW, hV⟩
      have hW := hW.ops
      rw [hV.pp] at hW
      have hsm := (req_same d 0 true).2.2
      exact ⟨by rw [← hsm]; exact hW.1, hW.2⟩
    · rintro e w' (⟨hr, rfl, hW, hD⟩ | ⟨hr, rfl, W, ⟨L', hW, hD⟩, rfl⟩)
      · have hrd : syncD d = reqD d 0 true := by unfold syncD; rw [if_neg hr]
        rw [hrd]
        exact ⟨L, rfl, hW, (Dv.ofEx k1).trans hD⟩
      · have hrd : syncD d = (incD { (reqD d 0 true).1 with has := doQ d.has 0 d.qu (fun _ => true), qu := [] }, 0) := by unfold syncD; rw [if_pos hr]
        rw [hrd]
        obtain ⟨qv, hM⟩ := hW.out
        refine ⟨L', rfl, ⟨qv, ?_⟩, ?_⟩
        · have := hM.setOps (n := d.ops + 1) (by omega)
          rw [hD.pp] at this
          unfold incD
          simp only
          rw [(req_same d 0 true).2.2]
          exact this
        · have := hD.setP 5 (I ((d.ops : Int) + 1))
          rw [hD.pp] at this
          exact this
  have HQ2 : Hid (Calls Try.prog 45 #[PT L.p, I 0, .bool true, .func (.func 49) #[] #[PT w.heap.size]] (w.alloc (.cells #[PT L.p] 24)) (PostD w L (syncD d).1 (I (syncD d).2))) := Lib.hid (by rw [hw1]; exact HQ)
  clear hw1 r0 hown k1 h HQ hs1
  go_enter Try.func28, Try.ntmps28
  go_wp2_with (go_at_call 45; (with_reducible refine HQ2.out.mono ?_); rintro e w2 ⟨L', rfl, hW, hD⟩; replace hW := Lib.hid hW; replace hD := Lib.hid hD)
  go_ret
  exact ⟨L', rfl, hW.out, hD.out⟩
theorem req_nil (i : Int) (ch : Bool) (f : Value) (w : World) : Calls Try.prog 45 #[.pointer none, I i, .bool ch, f] w (Post w (I 1)) := by
  go_enter Try.func45, Try.ntmps45
  go_wp2_with (go_at_call 44; (with_reducible refine (lit_nil _).mono ?_); rintro e w2 ⟨rfl, X, rfl⟩)
  go_ret
  exact post_mk' rfl (by (try show Ex _ _); repeat (first | (with_reducible exact ex_refl _) | (with_reducible assumption) | (with_reducible refine ex_drewL ?_) | (with_reducible refine ex_appR ?_ _) | (with_reducible refine ex_wx ?_ _) | (with_reducible refine ex_drew ?_) | (with_reducible refine ex_alloc ?_ _)))
theorem sync_nil (w : World) : Calls Try.prog 28 #[.pointer none] w (Post w (I 1)) := by
  go_enter Try.func28, Try.ntmps28
  go_wp2_with (go_at_call 45; (with_reducible refine (req_nil _ _ _ _).mono ?_); rintro e w2 ⟨rfl, X, rfl⟩)
  go_ret
  exact post_mk' rfl (by (try show Ex _ _); repeat (first | (with_reducible exact ex_refl _) | (with_reducible assumption) | (with_reducible refine ex_drewL ?_) | (with_reducible refine ex_appR ?_ _) | (with_reducible refine ex_wx ?_ _) | (with_reducible refine ex_drew ?_) | (with_reducible refine ex_alloc ?_ _)))
theorem write_nil (i : Int) (b : Bk) (w : World) : Calls Try.prog 25 #[.pointer none, I i, .agg (rowB 64 (bkF b))] w (Post w (I 1)) := by
  go_enter Try.func25, Try.ntmps25
  go_wp2_with (go_at_call 45; (with_reducible refine (req_nil _ _ _ _).mono ?_); rintro e w2 ⟨rfl, X, rfl⟩)
  go_ret
  exact post_mk' rfl (by (try show Ex _ _); repeat (first | (with_reducible exact ex_refl _) | (with_reducible assumption) | (with_reducible refine ex_drewL ?_) | (with_reducible refine ex_appR ?_ _) | (with_reducible refine ex_wx ?_ _) | (with_reducible refine ex_drew ?_) | (with_reducible refine ex_alloc ?_ _)))
theorem read_nil (i : Int) (w : World) : Calls Try.prog 21 #[.pointer none, I i] w (Post w (.tuple #[.agg (rowB 64 (bkF zeroB)), I 1])) := by
  rw [zeroB_row]
  go_enter Try.func21, Try.ntmps21
  go_wp2_with (go_at_call 45; (with_reducible refine (req_nil _ _ _ _).mono ?_); rintro e w2 ⟨rfl, X, rfl⟩)
  refine ret_rowV (cs := rowB 64 fun _ => 0) Try.results21 Try.underlying39 rfl info_blk rfl (by simp [go_sem]) rfl rfl (post_mk' rfl (by (try show Ex _ _); repeat (first | (with_reducible exact ex_refl _) | (with_reducible assumption) | (with_reducible refine ex_drewL ?_) | (with_reducible refine ex_appR ?_ _) | (with_reducible refine ex_wx ?_ _) | (with_reducible refine ex_drew ?_) | (with_reducible refine ex_alloc ?_ _))))
end Go.Proofs.Ytdohohafdplkiaa
