import Derived.Test.YtcdocklbpfdmeaaDoorMLeafR

/- Root of pairs. -/
set_option linter.unusedSimpArgs false
set_option linter.unusedVariables false
set_option maxRecDepth 20000
namespace Go.Proofs.YtcdocklbpfdmeaaDoor
open Go.RowKit
theorem held_ex {p : Nat → Prop} {w w' : World} (k : Ex w w') (hp : ∀ b, p b → b < w.heap.size) : HeldP p w w' :=
  ⟨ex_size k, fun b hb => by obtain ⟨X, rfl⟩ := k; exact wx_heap _ _ _ (hp b hb)⟩
theorem ex_setCells {A w : World} (k : Ex A w) {b : Nat} (hb : A.heap.size ≤ b) (o : Nat) (vs : List Value) : Ex A (w.setCells b o vs) :=
  ex_of_below ((ex_below k).trans (setCells_below hb vs o w))
/-- What only makes: nothing that stood turns. -/
def InvE (A : World) (p : Nat → Prop) (_ : Unit) (w : World) : Prop := Ex A w ∧ ∀ b, p b → A.heap.size ≤ b ∧ b < w.heap.size
theorem invE_ok {A : World} (G : Glob A) : Inv4 (InvE A) where
  glob := fun h => G.ex h.1
  low := fun h hb => (h.2 _ hb).2
  grow := fun q w' h k hq => ⟨ex_trans h.1 k, fun b hb => by
    have h1 := ex_size h.1
    have h2 := ex_size k
    rcases hq b hb with h3 | ⟨h3, h4⟩
    · have := h.2 b h3
      omega
    · omega⟩
  set := fun o vs h hb => ⟨ex_setCells h.1 (h.2 _ hb).1 o vs, fun b hb2 => by rw [setCells_size]; exact h.2 b hb2⟩
def FW (l : List Pr) (at_ n : Nat) (_ : Unit) : Option Dg × Unit := (if 1 < n then none else some (leafP (prAt l at_)), ())
theorem treeW (l : List Pr) (n : Nat) : ∀ at_, 1 ≤ n → at_ + n ≤ l.length → treeD (FW l) at_ n () = (topP ((l.drop at_).take n), ()) := by
  induction n using Nat.strongRecOn with
  | ind n ih =>
    intro at_ h1 h2
    by_cases hn : 1 < n
    · have k1 := split_lt (n := n) hn
      have k2 := split_pos n
      rw [tree_more (s1 := ()) (by unfold FW; rw [if_pos hn]) hn, ih _ k1 at_ k2 (by omega), ih _ (by omega) (at_ + splitN n) (by omega) (by omega)]
      have hl : ((l.drop at_).take n).length = n := by rw [List.length_take, List.length_drop]; omega
      rw [topP_two (l := (l.drop at_).take n) (by omega), hl]
      rw [List.take_take, Nat.min_eq_left (by omega), List.drop_take, List.drop_drop]
    · obtain rfl : n = 1 := by omega
      rw [tree_done (d := leafP (prAt l at_)) (s1 := ()) (by unfold FW; rw [if_neg hn])]
      have : (l.drop at_).take 1 = [prAt l at_] := by
        rw [List.take_one, List.head?_drop, prAt_get (by omega)]; rfl
      rw [this, topP_one]
set_option maxHeartbeats 1000000 in
theorem whole1_any {A : World} (G : Glob A) (l : List Pr) (a : Option Addr) (c bl : Nat) (hc : l.length ≤ c) (hcm : c ≤ maxLen) (hs : SlP A a l) (hb : A.cell? ⟨bl, 0, none⟩ = some (.slice a l.length c)) (hbl : bl < A.heap.size)
    (at_ n : Nat) (h1 : 1 ≤ n) (hat : at_ + n ≤ l.length) (w : World) (k : Ex A w) :
    Calls Tryd.prog 104 #[I at_, I n, .pointer (some ⟨bl, 0, none⟩)] w (Post w (.tuple #[.agg (rowB 32 (dF ((FW l at_ n ()).1.getD zeroD))), .bool (FW l at_ n ()).1.isSome])) := by
  unfold maxLen at hcm
  have hb2 : w.cell? ⟨bl, 0, none⟩ = some (.slice a l.length c) ∧ bl < w.heap.size := by
    obtain ⟨X, rfl⟩ := k
    exact ⟨by rw [wx_cell _ _ _ hbl]; exact hb, by rw [wx_size]; omega⟩
  obtain ⟨hb2, hbl2⟩ := hb2
  clear hb hbl
  by_cases hn : 1 < n
  · have hn' : (1 : Int) < n := by omega
    have hx : FW l at_ n () = (none, ()) := by unfold FW; rw [if_pos hn]
    rw [hx]
    simp only [Option.getD_none, Option.isSome_none]
    rw [row_zero]
    clear hx hs
    go_enter Tryd.func104, Tryd.ntmps104
    go_wp2
    exact ret_rowV (cs := rowB 32 fun _ => 0) (v := .bool false) Tryd.results104 Tryd.underlying46 rfl info_id rfl (by simp [go_sem]) rfl rfl (post_mk rfl (by (try show Ex _ _); repeat (first | (with_reducible exact ex_refl _) | (with_reducible assumption) | (with_reducible refine ex_drewL ?_) | (with_reducible refine ex_appR ?_ _) | (with_reducible refine ex_wx ?_ _) | (with_reducible refine ex_drew ?_) | (with_reducible refine ex_alloc ?_ _))))
  · obtain rfl : n = 1 := by omega
    have hx : FW l at_ 1 () = (some (leafP (prAt l at_)), ()) := by unfold FW; rw [if_neg (by omega)]
    rw [hx]
    simp only [Option.getD_some, Option.isSome_some]
    obtain ⟨g, off, rfl, hg, hrow, r1, r2⟩ := (hs.ex k).row (i := at_) (by omega)
    have HL := Lib.hid (fun w' (k' : Ex A w') => sleaf_any G (prAt l at_) w' k')
    have HLp := HL
    have e1 : (at_ : Int) < l.length := by omega
    generalize l.length = L at hc hb2 e1
    unfold PC at HL
    generalize prAt l at_ = p at r1 r2 hrow HL HLp ⊢
    generalize leafP p = z at HL HLp ⊢
    obtain ⟨s, t⟩ := p
    simp only at r1 r2 HL
    clear hx hs hat
    go_enter Tryd.func104, Tryd.ntmps104
    go_wp2_with (first | (go_at_call 105; (with_reducible refine (HL.out _ (by (try show Ex _ _); repeat (first | (with_reducible exact ex_refl _) | (with_reducible assumption) | (with_reducible refine ex_drewL ?_) | (with_reducible refine ex_appR ?_ _) | (with_reducible refine ex_wx ?_ _) | (with_reducible refine ex_drew ?_) | (with_reducible refine ex_alloc ?_ _)))).mono ?_); rintro e w2 ⟨rfl, X, rfl⟩) | (go_at_call 105; (with_reducible refine (HLp.out _ (by (try show Ex _ _); repeat (first | (with_reducible exact ex_refl _) | (with_reducible assumption) | (with_reducible refine ex_drewL ?_) | (with_reducible refine ex_appR ?_ _) | (with_reducible refine ex_wx ?_ _) | (with_reducible refine ex_drew ?_) | (with_reducible refine ex_alloc ?_ _)))).mono ?_); rintro e w2 ⟨rfl, X, rfl⟩))
    exact ret_rowV (cs := rowB 32 (dF z)) (v := .bool true) Tryd.results104 Tryd.underlying46 rfl info_id rfl (by first | (simp [go_sem]; done) | rfl) rfl rfl (post_mk rfl (by (try show Ex _ _); repeat (first | (with_reducible exact ex_refl _) | (with_reducible assumption) | (with_reducible refine ex_drewL ?_) | (with_reducible refine ex_appR ?_ _) | (with_reducible refine ex_wx ?_ _) | (with_reducible refine ex_drew ?_) | (with_reducible refine ex_alloc ?_ _))))
theorem climbW_any (l : List Pr) (a : Option Addr) (c bl : Nat) (w : World) (G : Glob w) (hL : l.length ≤ 1000) (hc : l.length ≤ c) (hcm : c ≤ maxLen) (hs : SlP w a l) (hb : w.cell? ⟨bl, 0, none⟩ = some (.slice a l.length c)) (hbl : bl < w.heap.size)
    (at_ n : Nat) (h1 : 1 ≤ n) (hat : at_ + n ≤ l.length) :
    Calls Tryd.prog 64 #[I at_, I n, .func (.func 104) #[] #[.pointer (some ⟨bl, 0, none⟩)]] w (Post w (.agg (rowB 32 (dF (topP ((l.drop at_).take n)))))) := by
  have h := climbT_any (invE_ok G) (FW l) 104 #[.pointer (some ⟨bl, 0, none⟩)] l.length hL (fun _ _ => by first | (simp [go_sem]; done) | rfl) (fun _ _ => rfl) (fun _ _ => True) (fun _ _ _ _ _ _ => trivial) (fun _ _ _ _ _ => trivial)
    (fun p at_ n s w' h1 hat _ hI => (whole1_any G l a c bl hc hcm hs hb hbl at_ n h1 hat w' hI.1).mono fun e w2 ⟨he, k⟩ => ⟨he, held_ex k fun b hb => (hI.2 b hb).2, (invE_ok G).grow _ hI k fun b hb => .inl hb⟩) n at_ () (fun _ => False) w h1 hat trivial ⟨ex_refl w, fun _ h => h.elim⟩
  rw [treeW l n at_ h1 hat] at h
  exact h.mono fun e w' ⟨h2, _, h3⟩ => ⟨h2, h3.1⟩
theorem whole_any (a : Option Addr) (n c : Nat) (w : World) : Calls Tryd.prog 65 #[.slice a n c] w fun e w' => e = .returned (.func (.func 104) #[] #[.pointer (some ⟨w.heap.size, 0, none⟩)]) ∧ w' = w.alloc (.cells #[.slice a n c] 22) := by
  have hmf : ∀ (fn : Fn) (first cap : Array Value) (w : World), (Instr.makeFunc fn first cap).run Tryd.prog w = .ok (.func fn first cap) w := fun _ _ _ _ => rfl
  go_enter Tryd.func65, Tryd.ntmps65
  go_wp2
  go_ret
  exact ⟨rfl, rfl⟩
end Go.Proofs.YtcdocklbpfdmeaaDoor
