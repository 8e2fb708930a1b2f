import Derived.Test.YtpcfkjeikhehaaaDoorMFrFew
import Derived.Test.YtpcfkjeikhehaaaDoorMCat

/- FrameApart: what it does. -/
set_option linter.unusedSimpArgs false
set_option linter.unusedVariables false
set_option maxRecDepth 20000
namespace Go.Proofs.YtpcfkjeikhehaaaDoor
open Go.RowKit
theorem plain_dec {x y : Ms} (hx : rightM x = true) (hy : rightM y = true) : decide (plainM x = plainM y) = sameM x y := by
  rw [Bool.eq_iff_iff, sameM_iff, decide_eq_true_eq]
  exact ⟨plain_inj hx hy, fun h => by rw [h]⟩
theorem SlT.drop {w : World} {g off n c : Nat} {l : List UInt8} (h : SlT w (.slice (some ⟨g, off, none⟩) n c) l) (k : Nat) (hk : k ≤ l.length) : SlT w (.slice (some ⟨g, off + k, none⟩) (n - k) (c - k)) (l.drop k) := by
  obtain ⟨a', c', hv, h1, h2, h3, h4⟩ := h.out
  obtain ⟨rfl, rfl, rfl⟩ : some (⟨g, off, none⟩ : Addr) = a' ∧ n = l.length ∧ c = c' := by simpa using hv
  refine ⟨some ⟨g, off + k, none⟩, c - k, by rw [List.length_drop], by rw [List.length_drop]; omega, by omega, (by intro h; cases h), ?_⟩
  rcases h4.out with h0 | ⟨g2, off2, h5, h6, h7⟩
  · refine ⟨Or.inl ?_⟩
    rw [List.length_drop]; omega
  · obtain ⟨rfl, rfl⟩ : g = g2 ∧ off = off2 := by simpa using h5
    refine SlB.mk' h6 fun j hj => ?_
    rw [List.length_drop] at hj
    have := h7 (k + j) (by omega)
    rw [show off + k + j = off + (k + j) by omega, this]
    unfold gF
    rw [List.getD_eq_getElem?_getD, List.getD_eq_getElem?_getD, List.getElem?_drop]
theorem own_tail {w : World} {Z : Nat} {v : Value} {p : List UInt8} (h : OwnL w Z v (sealL p)) (hp : p ≠ []) :
    ∃ g n c : Nat, v = .slice (some ⟨g, 0, none⟩) n c ∧ 16 < n ∧ n ≤ c ∧ c ≤ 2 ^ 63 - 1 ∧ Hid (∀ W, Ex w W → SlT W (.slice (some ⟨g, 16, none⟩) (n - 16) (c - 16)) p) := by
  obtain ⟨g, cap, cur, hv, _⟩ := own_block h (by rw [seal_len]; omega) (by decide)
  obtain ⟨a, c, hv2, h1, h2, _⟩ := own_form h
  obtain rfl : v = .slice (some ⟨g, 0, none⟩) (sealL p).length cap := hv
  obtain ⟨rfl, rfl⟩ : some (⟨g, 0, none⟩ : Addr) = a ∧ cap = c := by simpa using hv2
  have hl : p.length ≠ 0 := fun h => hp (List.eq_nil_of_length_eq_zero h)
  refine ⟨g, _, cap, rfl, by rw [seal_len]; omega, h1, h2, Lib.hid fun W k => ?_⟩
  have := (h.slt.ex k).drop 16 (by rw [seal_len]; omega)
  rw [Nat.zero_add] at this
  rwa [show (sealL p).drop 16 = p by unfold sealL; rw [List.drop_left' (by rw [List.length_take, bytesD_len]; rfl)]] at this
theorem few_es (m : Ms) : (fewM m).es.length ≤ 1000 := by
  show ((m.es.take 9).map fewE).length ≤ 1000
  rw [List.length_map, List.length_take]; omega
set_option maxHeartbeats 2000000 in
theorem apart_any (x y : Ms) (v u : Value) (w : World) (G : FGlob w) (hx : MsV w v x) (hy : MsV w u y) :
    Calls Tryd.prog 6 #[v, u] w (Post w (.bool true)) := by
  have KX := Lib.hid (fun w' (k : Ex w w') => few_any x v w' (hx.ex k))
  have KY := Lib.hid (fun w' (k : Ex w w') => few_any y u w' (hy.ex k))
  have EX := Lib.hid (fun w' v' (k : Ex w w') (h : MsV w' v' (fewM x)) => encode_any (fewM x) v' w' (G.ex k) h (few_es x))
  have EY := Lib.hid (fun w' v' (k : Ex w w') (h : MsV w' v' (fewM y)) => encode_any (fewM y) v' w' (G.ex k) h (few_es y))
  obtain ⟨ev, mv, dv, rfl, _, _, _⟩ := hx.out
  obtain ⟨eu, mu, du, rfl, _, _, _⟩ := hy.out
  clear hx hy
  have HD : Hid (rightM (fewM x) = true → rightM (fewM y) = true → decide (plainM (fewM x) = plainM (fewM y)) = sameM (fewM x) (fewM y)) := Lib.hid plain_dec
  have NX := Lib.hid (plain_ne (fewM x))
  have NY := Lib.hid (plain_ne (fewM y))
  unfold PostE at EX EY
  generalize fewM x = x2 at *
  generalize fewM y = y2 at *
  generalize hsb : sameM x2 y2 = sb at *
  generalize hsx : plainM x2 = px at *
  generalize hsy : plainM y2 = py at *
  generalize rightM x2 = rx at *
  generalize rightM y2 = ry at *
  cases rx <;> cases ry
  · skip
    (try rw [show errC true = 0 from rfl] at EX EY)
    (try rw [show errC true = 0 from rfl] at EX)
    (try rw [show errC true = 0 from rfl] at EY)
    (try rw [show errC false = 170 from rfl] at EX)
    (try rw [show errC false = 170 from rfl] at EY)
    clear HD
    go_enter Tryd.func6, Tryd.ntmps6
    go_wp2_with (first | (go_at_call 9; (with_reducible refine (wakes_any _ (G.ex (by (try show Ex _ _); repeat (first | (with_reducible exact ex_refl _) | (with_reducible assumption) | (with_reducible refine ex_drewL ?_) | (with_reducible refine ex_appR ?_ _) | (with_reducible refine ex_wx ?_ _) | (with_reducible refine ex_drew ?_) | (with_reducible refine ex_alloc ?_ _))))).mono ?_); rintro e w' ⟨rfl, X, rfl⟩) | (go_at_call 16; (with_reducible refine (KX.out _ (by (try show Ex _ _); repeat (first | (with_reducible exact ex_refl _) | (with_reducible assumption) | (with_reducible refine ex_drewL ?_) | (with_reducible refine ex_appR ?_ _) | (with_reducible refine ex_wx ?_ _) | (with_reducible refine ex_drew ?_) | (with_reducible refine ex_alloc ?_ _)))).mono ?_); rintro e w' ⟨vx, rfl, hmx, X, rfl⟩; (try simp only [wx_wx, wx_drew] at hmx)) | (go_at_call 16; (with_reducible refine (KY.out _ (by (try show Ex _ _); repeat (first | (with_reducible exact ex_refl _) | (with_reducible assumption) | (with_reducible refine ex_drewL ?_) | (with_reducible refine ex_appR ?_ _) | (with_reducible refine ex_wx ?_ _) | (with_reducible refine ex_drew ?_) | (with_reducible refine ex_alloc ?_ _)))).mono ?_); rintro e w' ⟨vy, rfl, hmy, X, rfl⟩; (try simp only [wx_wx, wx_drew] at hmy)) | (go_at_call 17; (with_reducible refine (EY.out _ _ (by (try show Ex _ _); repeat (first | (with_reducible exact ex_refl _) | (with_reducible assumption) | (with_reducible refine ex_drewL ?_) | (with_reducible refine ex_appR ?_ _) | (with_reducible refine ex_wx ?_ _) | (with_reducible refine ex_drew ?_) | (with_reducible refine ex_alloc ?_ _))) hmy).mono ?_); rintro e w' ⟨v2, rfl, ho, _, X, rfl⟩; replace ho := ho (by trivial); (try simp only [wx_wx, wx_drew] at ho); obtain ⟨gy, ny, cy, rfl, ly1, ly2, ly3, hty⟩ := own_tail ho NY.out; clear ho) | (go_at_call 17; (with_reducible refine (EX.out _ _ (by (try show Ex _ _); repeat (first | (with_reducible exact ex_refl _) | (with_reducible assumption) | (with_reducible refine ex_drewL ?_) | (with_reducible refine ex_appR ?_ _) | (with_reducible refine ex_wx ?_ _) | (with_reducible refine ex_drew ?_) | (with_reducible refine ex_alloc ?_ _))) hmx).mono ?_); rintro e w' ⟨v2, rfl, ho, _, X, rfl⟩; replace ho := ho (by trivial); (try simp only [wx_wx, wx_drew] at ho); obtain ⟨gx, nx, cx, rfl, lx1, lx2, lx3, htx⟩ := own_tail ho NX.out; clear ho) | (go_at_call 17; (with_reducible refine (EY.out _ _ (by (try show Ex _ _); repeat (first | (with_reducible exact ex_refl _) | (with_reducible assumption) | (with_reducible refine ex_drewL ?_) | (with_reducible refine ex_appR ?_ _) | (with_reducible refine ex_wx ?_ _) | (with_reducible refine ex_drew ?_) | (with_reducible refine ex_alloc ?_ _))) hmy).mono ?_); rintro e w' ⟨v2, rfl, _, ho, X, rfl⟩; replace ho := ho (by trivial); subst ho) | (go_at_call 17; (with_reducible refine (EX.out _ _ (by (try show Ex _ _); repeat (first | (with_reducible exact ex_refl _) | (with_reducible assumption) | (with_reducible refine ex_drewL ?_) | (with_reducible refine ex_appR ?_ _) | (with_reducible refine ex_wx ?_ _) | (with_reducible refine ex_drew ?_) | (with_reducible refine ex_alloc ?_ _))) hmx).mono ?_); rintro e w' ⟨v2, rfl, _, ho, X, rfl⟩; replace ho := ho (by trivial); subst ho))
    go_ret
    exact post_mk rfl (by (try show Ex _ _); repeat (first | (with_reducible exact ex_refl _) | (with_reducible assumption) | (with_reducible refine ex_drewL ?_) | (with_reducible refine ex_appR ?_ _) | (with_reducible refine ex_wx ?_ _) | (with_reducible refine ex_drew ?_) | (with_reducible refine ex_alloc ?_ _)))
  · skip
    (try rw [show errC true = 0 from rfl] at EX EY)
    (try rw [show errC true = 0 from rfl] at EX)
    (try rw [show errC true = 0 from rfl] at EY)
    (try rw [show errC false = 170 from rfl] at EX)
    (try rw [show errC false = 170 from rfl] at EY)
    clear HD
    go_enter Tryd.func6, Tryd.ntmps6
    go_wp2_with (first | (go_at_call 9; (with_reducible refine (wakes_any _ (G.ex (by (try show Ex _ _); repeat (first | (with_reducible exact ex_refl _) | (with_reducible assumption) | (with_reducible refine ex_drewL ?_) | (with_reducible refine ex_appR ?_ _) | (with_reducible refine ex_wx ?_ _) | (with_reducible refine ex_drew ?_) | (with_reducible refine ex_alloc ?_ _))))).mono ?_); rintro e w' ⟨rfl, X, rfl⟩) | (go_at_call 16; (with_reducible refine (KX.out _ (by (try show Ex _ _); repeat (first | (with_reducible exact ex_refl _) | (with_reducible assumption) | (with_reducible refine ex_drewL ?_) | (with_reducible refine ex_appR ?_ _) | (with_reducible refine ex_wx ?_ _) | (with_reducible refine ex_drew ?_) | (with_reducible refine ex_alloc ?_ _)))).mono ?_); rintro e w' ⟨vx, rfl, hmx, X, rfl⟩; (try simp only [wx_wx, wx_drew] at hmx)) | (go_at_call 16; (with_reducible refine (KY.out _ (by (try show Ex _ _); repeat (first | (with_reducible exact ex_refl _) | (with_reducible assumption) | (with_reducible refine ex_drewL ?_) | (with_reducible refine ex_appR ?_ _) | (with_reducible refine ex_wx ?_ _) | (with_reducible refine ex_drew ?_) | (with_reducible refine ex_alloc ?_ _)))).mono ?_); rintro e w' ⟨vy, rfl, hmy, X, rfl⟩; (try simp only [wx_wx, wx_drew] at hmy)) | (go_at_call 17; (with_reducible refine (EY.out _ _ (by (try show Ex _ _); repeat (first | (with_reducible exact ex_refl _) | (with_reducible assumption) | (with_reducible refine ex_drewL ?_) | (with_reducible refine ex_appR ?_ _) | (with_reducible refine ex_wx ?_ _) | (with_reducible refine ex_drew ?_) | (with_reducible refine ex_alloc ?_ _))) hmy).mono ?_); rintro e w' ⟨v2, rfl, ho, _, X, rfl⟩; replace ho := ho (by trivial); (try simp only [wx_wx, wx_drew] at ho); obtain ⟨gy, ny, cy, rfl, ly1, ly2, ly3, hty⟩ := own_tail ho NY.out; clear ho) | (go_at_call 17; (with_reducible refine (EX.out _ _ (by (try show Ex _ _); repeat (first | (with_reducible exact ex_refl _) | (with_reducible assumption) | (with_reducible refine ex_drewL ?_) | (with_reducible refine ex_appR ?_ _) | (with_reducible refine ex_wx ?_ _) | (with_reducible refine ex_drew ?_) | (with_reducible refine ex_alloc ?_ _))) hmx).mono ?_); rintro e w' ⟨v2, rfl, ho, _, X, rfl⟩; replace ho := ho (by trivial); (try simp only [wx_wx, wx_drew] at ho); obtain ⟨gx, nx, cx, rfl, lx1, lx2, lx3, htx⟩ := own_tail ho NX.out; clear ho) | (go_at_call 17; (with_reducible refine (EY.out _ _ (by (try show Ex _ _); repeat (first | (with_reducible exact ex_refl _) | (with_reducible assumption) | (with_reducible refine ex_drewL ?_) | (with_reducible refine ex_appR ?_ _) | (with_reducible refine ex_wx ?_ _) | (with_reducible refine ex_drew ?_) | (with_reducible refine ex_alloc ?_ _))) hmy).mono ?_); rintro e w' ⟨v2, rfl, _, ho, X, rfl⟩; replace ho := ho (by trivial); subst ho) | (go_at_call 17; (with_reducible refine (EX.out _ _ (by (try show Ex _ _); repeat (first | (with_reducible exact ex_refl _) | (with_reducible assumption) | (with_reducible refine ex_drewL ?_) | (with_reducible refine ex_appR ?_ _) | (with_reducible refine ex_wx ?_ _) | (with_reducible refine ex_drew ?_) | (with_reducible refine ex_alloc ?_ _))) hmx).mono ?_); rintro e w' ⟨v2, rfl, _, ho, X, rfl⟩; replace ho := ho (by trivial); subst ho))
    go_ret
    exact post_mk rfl (by (try show Ex _ _); repeat (first | (with_reducible exact ex_refl _) | (with_reducible assumption) | (with_reducible refine ex_drewL ?_) | (with_reducible refine ex_appR ?_ _) | (with_reducible refine ex_wx ?_ _) | (with_reducible refine ex_drew ?_) | (with_reducible refine ex_alloc ?_ _)))
  · skip
    (try rw [show errC true = 0 from rfl] at EX EY)
    (try rw [show errC true = 0 from rfl] at EX)
    (try rw [show errC true = 0 from rfl] at EY)
    (try rw [show errC false = 170 from rfl] at EX)
    (try rw [show errC false = 170 from rfl] at EY)
    clear HD
    go_enter Tryd.func6, Tryd.ntmps6
    go_wp2_with (first | (go_at_call 9; (with_reducible refine (wakes_any _ (G.ex (by (try show Ex _ _); repeat (first | (with_reducible exact ex_refl _) | (with_reducible assumption) | (with_reducible refine ex_drewL ?_) | (with_reducible refine ex_appR ?_ _) | (with_reducible refine ex_wx ?_ _) | (with_reducible refine ex_drew ?_) | (with_reducible refine ex_alloc ?_ _))))).mono ?_); rintro e w' ⟨rfl, X, rfl⟩) | (go_at_call 16; (with_reducible refine (KX.out _ (by (try show Ex _ _); repeat (first | (with_reducible exact ex_refl _) | (with_reducible assumption) | (with_reducible refine ex_drewL ?_) | (with_reducible refine ex_appR ?_ _) | (with_reducible refine ex_wx ?_ _) | (with_reducible refine ex_drew ?_) | (with_reducible refine ex_alloc ?_ _)))).mono ?_); rintro e w' ⟨vx, rfl, hmx, X, rfl⟩; (try simp only [wx_wx, wx_drew] at hmx)) | (go_at_call 16; (with_reducible refine (KY.out _ (by (try show Ex _ _); repeat (first | (with_reducible exact ex_refl _) | (with_reducible assumption) | (with_reducible refine ex_drewL ?_) | (with_reducible refine ex_appR ?_ _) | (with_reducible refine ex_wx ?_ _) | (with_reducible refine ex_drew ?_) | (with_reducible refine ex_alloc ?_ _)))).mono ?_); rintro e w' ⟨vy, rfl, hmy, X, rfl⟩; (try simp only [wx_wx, wx_drew] at hmy)) | (go_at_call 17; (with_reducible refine (EY.out _ _ (by (try show Ex _ _); repeat (first | (with_reducible exact ex_refl _) | (with_reducible assumption) | (with_reducible refine ex_drewL ?_) | (with_reducible refine ex_appR ?_ _) | (with_reducible refine ex_wx ?_ _) | (with_reducible refine ex_drew ?_) | (with_reducible refine ex_alloc ?_ _))) hmy).mono ?_); rintro e w' ⟨v2, rfl, ho, _, X, rfl⟩; replace ho := ho (by trivial); (try simp only [wx_wx, wx_drew] at ho); obtain ⟨gy, ny, cy, rfl, ly1, ly2, ly3, hty⟩ := own_tail ho NY.out; clear ho) | (go_at_call 17; (with_reducible refine (EX.out _ _ (by (try show Ex _ _); repeat (first | (with_reducible exact ex_refl _) | (with_reducible assumption) | (with_reducible refine ex_drewL ?_) | (with_reducible refine ex_appR ?_ _) | (with_reducible refine ex_wx ?_ _) | (with_reducible refine ex_drew ?_) | (with_reducible refine ex_alloc ?_ _))) hmx).mono ?_); rintro e w' ⟨v2, rfl, ho, _, X, rfl⟩; replace ho := ho (by trivial); (try simp only [wx_wx, wx_drew] at ho); obtain ⟨gx, nx, cx, rfl, lx1, lx2, lx3, htx⟩ := own_tail ho NX.out; clear ho) | (go_at_call 17; (with_reducible refine (EY.out _ _ (by (try show Ex _ _); repeat (first | (with_reducible exact ex_refl _) | (with_reducible assumption) | (with_reducible refine ex_drewL ?_) | (with_reducible refine ex_appR ?_ _) | (with_reducible refine ex_wx ?_ _) | (with_reducible refine ex_drew ?_) | (with_reducible refine ex_alloc ?_ _))) hmy).mono ?_); rintro e w' ⟨v2, rfl, _, ho, X, rfl⟩; replace ho := ho (by trivial); subst ho) | (go_at_call 17; (with_reducible refine (EX.out _ _ (by (try show Ex _ _); repeat (first | (with_reducible exact ex_refl _) | (with_reducible assumption) | (with_reducible refine ex_drewL ?_) | (with_reducible refine ex_appR ?_ _) | (with_reducible refine ex_wx ?_ _) | (with_reducible refine ex_drew ?_) | (with_reducible refine ex_alloc ?_ _))) hmx).mono ?_); rintro e w' ⟨v2, rfl, _, ho, X, rfl⟩; replace ho := ho (by trivial); subst ho))
    go_ret
    exact post_mk rfl (by (try show Ex _ _); repeat (first | (with_reducible exact ex_refl _) | (with_reducible assumption) | (with_reducible refine ex_drewL ?_) | (with_reducible refine ex_appR ?_ _) | (with_reducible refine ex_wx ?_ _) | (with_reducible refine ex_drew ?_) | (with_reducible refine ex_alloc ?_ _)))
  · have HD2 := Lib.hid (HD.out rfl rfl)
    rw [show errC true = 0 from rfl] at EX EY
    clear HD
    obtain ⟨A, hA⟩ : ∃ A, (w.alloc (.cells #[I x.kd, I x.fr, I x.to, L x.tm, L x.pi, L x.pt, ev, L x.cm, .bool x.ok, mv, dv] 41)).alloc (.cells #[I y.kd, I y.fr, I y.to, L y.tm, L y.pi, L y.pt, eu, L y.cm, .bool y.ok, mu, du] 41) = A := ⟨_, rfl⟩
    have hs0 : w.heap.size + 2 = A.heap.size := by rw [← hA]; simp [go_sem]
    have hq0 : A.heap[w.heap.size]? = some (.cells #[I x.kd, I x.fr, I x.to, L x.tm, L x.pi, L x.pt, ev, L x.cm, .bool x.ok, mv, dv] 41 (0, 0)) := by rw [← hA]; exact (ex_of_alloc _ _ _ (by simp [go_sem])).trans (heap_alloc_new w _)
    have hq1 : A.heap[w.heap.size + 1]? = some (.cells #[I y.kd, I y.fr, I y.to, L y.tm, L y.pi, L y.pt, eu, L y.cm, .bool y.ok, mu, du] 41 (0, 0)) := by rw [← hA]; exact alloc_at (by simp [go_sem])
    have hk0 : Ex w A := by rw [← hA]; exact ex_alloc (ex_alloc (ex_refl _) _) _
    obtain ⟨n0, nf0⟩ := block_cells (n := 11) hq0 rfl
    obtain ⟨n1, nf1⟩ := block_cells (n := 11) hq1 rfl
    have KX' := Lib.hid (fun w' (k : Ex A w') => KX.out w' (ex_trans hk0 k))
    have KY' := Lib.hid (fun w' (k : Ex A w') => KY.out w' (ex_trans hk0 k))
    have EX' := Lib.hid (fun w' v' (k : Ex A w') => EX.out w' v' (ex_trans hk0 k))
    have EY' := Lib.hid (fun w' v' (k : Ex A w') => EY.out w' v' (ex_trans hk0 k))
    have GA := G.ex hk0
    have HqH := Lib.hid hq0
    clear hq0 hq1
    go_enter Tryd.func6, Tryd.ntmps6
    replace hA := Lib.hid hA
    go_wp2_with (first | (go_at_call 9; (with_reducible refine (wakes_any _ (G.ex (by (try show Ex _ _); repeat (first | (with_reducible exact ex_refl _) | (with_reducible assumption) | (with_reducible refine ex_drewL ?_) | (with_reducible refine ex_appR ?_ _) | (with_reducible refine ex_wx ?_ _) | (with_reducible refine ex_drew ?_) | (with_reducible refine ex_alloc ?_ _))))).mono ?_); rintro e w' ⟨rfl, X, rfl⟩) | (go_at_call 16; (with_reducible refine (KX.out _ (by (try show Ex _ _); repeat (first | (with_reducible exact ex_refl _) | (with_reducible assumption) | (with_reducible refine ex_drewL ?_) | (with_reducible refine ex_appR ?_ _) | (with_reducible refine ex_wx ?_ _) | (with_reducible refine ex_drew ?_) | (with_reducible refine ex_alloc ?_ _)))).mono ?_); rintro e w' ⟨vx, rfl, hmx, X, rfl⟩; (try simp only [wx_wx, wx_drew] at hmx)) | (go_at_call 16; (with_reducible refine (KY.out _ (by (try show Ex _ _); repeat (first | (with_reducible exact ex_refl _) | (with_reducible assumption) | (with_reducible refine ex_drewL ?_) | (with_reducible refine ex_appR ?_ _) | (with_reducible refine ex_wx ?_ _) | (with_reducible refine ex_drew ?_) | (with_reducible refine ex_alloc ?_ _)))).mono ?_); rintro e w' ⟨vy, rfl, hmy, X, rfl⟩; (try simp only [wx_wx, wx_drew] at hmy)) | (go_at_call 17; (with_reducible refine (EY.out _ _ (by (try show Ex _ _); repeat (first | (with_reducible exact ex_refl _) | (with_reducible assumption) | (with_reducible refine ex_drewL ?_) | (with_reducible refine ex_appR ?_ _) | (with_reducible refine ex_wx ?_ _) | (with_reducible refine ex_drew ?_) | (with_reducible refine ex_alloc ?_ _))) hmy).mono ?_); rintro e w' ⟨v2, rfl, ho, _, X, rfl⟩; replace ho := ho (by trivial); (try simp only [wx_wx, wx_drew] at ho); obtain ⟨gy, ny, cy, rfl, ly1, ly2, ly3, hty⟩ := own_tail ho NY.out; clear ho) | (go_at_call 17; (with_reducible refine (EX.out _ _ (by (try show Ex _ _); repeat (first | (with_reducible exact ex_refl _) | (with_reducible assumption) | (with_reducible refine ex_drewL ?_) | (with_reducible refine ex_appR ?_ _) | (with_reducible refine ex_wx ?_ _) | (with_reducible refine ex_drew ?_) | (with_reducible refine ex_alloc ?_ _))) hmx).mono ?_); rintro e w' ⟨v2, rfl, ho, _, X, rfl⟩; replace ho := ho (by trivial); (try simp only [wx_wx, wx_drew] at ho); obtain ⟨gx, nx, cx, rfl, lx1, lx2, lx3, htx⟩ := own_tail ho NX.out; clear ho) | (go_at_call 17; (with_reducible refine (EY.out _ _ (by (try show Ex _ _); repeat (first | (with_reducible exact ex_refl _) | (with_reducible assumption) | (with_reducible refine ex_drewL ?_) | (with_reducible refine ex_appR ?_ _) | (with_reducible refine ex_wx ?_ _) | (with_reducible refine ex_drew ?_) | (with_reducible refine ex_alloc ?_ _))) hmy).mono ?_); rintro e w' ⟨v2, rfl, _, ho, X, rfl⟩; replace ho := ho (by trivial); subst ho) | (go_at_call 17; (with_reducible refine (EX.out _ _ (by (try show Ex _ _); repeat (first | (with_reducible exact ex_refl _) | (with_reducible assumption) | (with_reducible refine ex_drewL ?_) | (with_reducible refine ex_appR ?_ _) | (with_reducible refine ex_wx ?_ _) | (with_reducible refine ex_drew ?_) | (with_reducible refine ex_alloc ?_ _))) hmx).mono ?_); rintro e w' ⟨v2, rfl, _, ho, X, rfl⟩; replace ho := ho (by trivial); subst ho))
    rw [hA.out] at htx hty ⊢
    clear hA KX KY EX EY
    refine wp_region_fork (A) (.look 0 (.look 1 (.look 2 (.look 3 (.look 5 (.look 7 (.eff 4 (.eff 6 (.eff 8 (.eff 9 (.look 10 (.look 11 .done)))))))))))) (by (try show Ex _ _); repeat (first | (with_reducible exact ex_refl _) | (with_reducible assumption) | (with_reducible refine ex_drewL ?_) | (with_reducible refine ex_appR ?_ _) | (with_reducible refine ex_wx ?_ _) | (with_reducible refine ex_drew ?_) | (with_reducible refine ex_alloc ?_ _))) (by kernel_rfl) (by kernel_rfl) (fun _ _ d _ _ h => by cases d <;> exact h) ?_
    simp only [Fk.ops, nth]
    repeat (first | ((with_reducible refine wpFork_look ?_); go_big_quiet_step (fail); (try (with_reducible refine wpQuiet_nil ?_))) | (with_reducible refine wpFork_eff ?_) | ((with_reducible refine effT_F ?_ ?_); (focus rfl); go_simp) | ((with_reducible refine effT_T ?_ ?_); (focus rfl); (try dsimp only); go_wp2_with (first | (go_at_call 16; (with_reducible refine (KX'.out _ (by (try show Ex _ _); repeat (first | (with_reducible exact ex_refl _) | (with_reducible assumption) | (with_reducible refine ex_drewL ?_) | (with_reducible refine ex_appR ?_ _) | (with_reducible refine ex_wx ?_ _) | (with_reducible refine ex_drew ?_) | (with_reducible refine ex_alloc ?_ _)))).mono ?_); rintro e w' ⟨vx, rfl, hmx, X, rfl⟩; (try simp only [wx_wx, wx_drew] at hmx)) | (go_at_call 16; (with_reducible refine (KY'.out _ (by (try show Ex _ _); repeat (first | (with_reducible exact ex_refl _) | (with_reducible assumption) | (with_reducible refine ex_drewL ?_) | (with_reducible refine ex_appR ?_ _) | (with_reducible refine ex_wx ?_ _) | (with_reducible refine ex_drew ?_) | (with_reducible refine ex_alloc ?_ _)))).mono ?_); rintro e w' ⟨vy, rfl, hmy, X, rfl⟩; (try simp only [wx_wx, wx_drew] at hmy)) | (go_at_call 23; (with_reducible refine (bytesEqual_any _ _ _ _ _ (htx.out _ (by (try show Ex _ _); repeat (first | (with_reducible exact ex_refl _) | (with_reducible assumption) | (with_reducible refine ex_drewL ?_) | (with_reducible refine ex_appR ?_ _) | (with_reducible refine ex_wx ?_ _) | (with_reducible refine ex_drew ?_) | (with_reducible refine ex_alloc ?_ _)))) (hty.out _ (by (try show Ex _ _); repeat (first | (with_reducible exact ex_refl _) | (with_reducible assumption) | (with_reducible refine ex_drewL ?_) | (with_reducible refine ex_appR ?_ _) | (with_reducible refine ex_wx ?_ _) | (with_reducible refine ex_drew ?_) | (with_reducible refine ex_alloc ?_ _))))).mono ?_); rw [HD2.out]; rintro e w' ⟨rfl, X, rfl⟩) | (go_at_call 22; (with_reducible refine (same_any _ _ _ _ _ (hmx.ex (by (try show Ex _ _); repeat (first | (with_reducible exact ex_refl _) | (with_reducible assumption) | (with_reducible refine ex_drewL ?_) | (with_reducible refine ex_appR ?_ _) | (with_reducible refine ex_wx ?_ _) | (with_reducible refine ex_drew ?_) | (with_reducible refine ex_alloc ?_ _)))) hmy).mono ?_); rw [hsb]; rintro e w' ⟨rfl, X, rfl⟩)); refine mixQ_mk (by (try show Ex _ _); repeat (first | (with_reducible exact ex_refl _) | (with_reducible assumption) | (with_reducible refine ex_drewL ?_) | (with_reducible refine ex_appR ?_ _) | (with_reducible refine ex_wx ?_ _) | (with_reducible refine ex_drew ?_) | (with_reducible refine ex_alloc ?_ _))) ?_))
    all_goals (with_reducible refine wpFork_nil ?_)
    all_goals
      go_wp2
      go_ret
      exact post_mk (by cases sb <;> rfl) (ex_trans hk0 (by (try show Ex _ _); repeat (first | (with_reducible exact ex_refl _) | (with_reducible assumption) | (with_reducible refine ex_drewL ?_) | (with_reducible refine ex_appR ?_ _) | (with_reducible refine ex_wx ?_ _) | (with_reducible refine ex_drew ?_) | (with_reducible refine ex_alloc ?_ _))))
end Go.Proofs.YtpcfkjeikhehaaaDoor
