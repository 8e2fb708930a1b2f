import Derived.Test.YtbobamifpjlmiaaDoorMSeqH
import Derived.Maps.AppendAt

/- Root of pairs. -/
set_option linter.unusedSimpArgs false
set_option linter.unusedVariables false
set_option maxRecDepth 20000
namespace Go.Proofs.YtbobamifpjlmiaaDoor
open Go.RowKit
theorem held_ex {p : Nat → Prop} {w w' : World} (k : Ex w w') (hp : ∀ b, p b → b < w.heap.size) : HeldP p w w' :=
  ⟨ex_size k, fun b hb => by obtain ⟨X, rfl⟩ := k; exact wx_heap _ _ _ (hp b hb)⟩
theorem ex_setCells {A w : World} (k : Ex A w) {b : Nat} (hb : A.heap.size ≤ b) (o : Nat) (vs : List Value) : Ex A (w.setCells b o vs) :=
  ex_of_below ((ex_below k).trans (setCells_below hb vs o w))
/-- What only makes: nothing that stood turns. -/
def InvE (A : World) (p : Nat → Prop) (_ : Unit) (w : World) : Prop := Ex A w ∧ ∀ b, p b → A.heap.size ≤ b ∧ b < w.heap.size
theorem invE_ok {A : World} (G : Glob A) : Inv4 (InvE A) where
  glob := fun h => G.ex h.1
  low := fun h hb => (h.2 _ hb).2
  grow := fun q w' h k hq => ⟨ex_trans h.1 k, fun b hb => by
    have h1 := ex_size h.1
    have h2 := ex_size k
    rcases hq b hb with h3 | ⟨h3, h4⟩
    · have := h.2 b h3
      omega
    · omega⟩
  set := fun o vs h hb => ⟨ex_setCells h.1 (h.2 _ hb).1 o vs, fun b hb2 => by rw [setCells_size]; exact h.2 b hb2⟩
def FW (l : List Pr) (at_ n : Nat) (_ : Unit) : Option Dg × Unit := (if 1 < n then none else some (leafP (prAt l at_)), ())
theorem treeW (l : List Pr) (n : Nat) : ∀ at_, 1 ≤ n → at_ + n ≤ l.length → treeD (FW l) at_ n () = (topP ((l.drop at_).take n), ()) := by
  induction n using Nat.strongRecOn with
  | ind n ih =>
    intro at_ h1 h2
    by_cases hn : 1 < n
    · have k1 := split_lt (n := n) hn
      have k2 := split_pos n
      rw [tree_more (s1 := ()) (by unfold FW; rw [if_pos hn]) hn, ih _ k1 at_ k2 (by omega), ih _ (by omega) (at_ + splitN n) (by omega) (by omega)]
      have hl : ((l.drop at_).take n).length = n := by rw [List.length_take, List.length_drop]; omega
      rw [topP_two (l := (l.drop at_).take n) (by omega), hl]
      rw [List.take_take, Nat.min_eq_left (by omega), List.drop_take, List.drop_drop]
    · obtain rfl : n = 1 := by omega
      rw [tree_done (d := leafP (prAt l at_)) (s1 := ()) (by unfold FW; rw [if_neg hn])]
      have : (l.drop at_).take 1 = [prAt l at_] := by
        rw [List.take_one, List.head?_drop, prAt_get (by omega)]; rfl
      rw [this, topP_one]
set_option maxHeartbeats 1000000 in
theorem whole1_any {A : World} (G : Glob A) (l : List Pr) (a : Option Addr) (c bl : Nat) (hc : l.length ≤ c) (hcm : c ≤ maxLen) (hs : SlP A a l) (hb : A.cell? ⟨bl, 0, none⟩ = some (.slice a l.length c)) (hbl : bl < A.heap.size)
    (at_ n : Nat) (h1 : 1 ≤ n) (hat : at_ + n ≤ l.length) (w : World) (k : Ex A w) :
    Calls Tryd.prog 97 #[I at_, I n, .pointer (some ⟨bl, 0, none⟩)] w (Post w (.tuple #[.agg (rowB 32 (dF ((FW l at_ n ()).1.getD zeroD))), .bool (FW l at_ n ()).1.isSome])) := by
  unfold maxLen at hcm
  have hb2 : w.cell? ⟨bl, 0, none⟩ = some (.slice a l.length c) ∧ bl < w.heap.size := by
    obtain ⟨X, rfl⟩ := k
    exact ⟨by rw [wx_cell _ _ _ hbl]; exact hb, by rw [wx_size]; omega⟩
  obtain ⟨hb2, hbl2⟩ := hb2
  clear hb hbl
  by_cases hn : 1 < n
  · have hn' : (1 : Int) < n := by omega
    have hx : FW l at_ n () = (none, ()) := by unfold FW; rw [if_pos hn]
    rw [hx]
    simp only [Option.getD_none, Option.isSome_none]
    rw [row_zero]
    clear hx hs
    go_enter Tryd.func97, Tryd.ntmps97
    go_wp2
    exact ret_rowV (cs := rowB 32 fun _ => 0) (v := .bool false) Tryd.results97 Tryd.underlying26 rfl info_id rfl (by simp [go_sem]) rfl rfl (post_mk rfl (by (try show Ex _ _); repeat (first | (with_reducible exact ex_refl _) | (with_reducible assumption) | (with_reducible refine ex_drewL ?_) | (with_reducible refine ex_appR ?_ _) | (with_reducible refine ex_wx ?_ _) | (with_reducible refine ex_drew ?_) | (with_reducible refine ex_alloc ?_ _))))
  · obtain rfl : n = 1 := by omega
    have hx : FW l at_ 1 () = (some (leafP (prAt l at_)), ()) := by unfold FW; rw [if_neg (by omega)]
    rw [hx]
    simp only [Option.getD_some, Option.isSome_some]
    obtain ⟨g, off, rfl, hg, _, r1, r2⟩ := (hs.ex k).row (i := at_) (by omega)
    have HL := Lib.hid (fun w' (k' : Ex A w') => sleaf_any G (prAt l at_) w' k')
    have e1 : (at_ : Int) < l.length := by omega
    generalize l.length = L at hc hb2 e1
    unfold PC at HL
    generalize prAt l at_ = p at r1 r2 HL ⊢
    generalize leafP p = z at HL ⊢
    obtain ⟨s, t⟩ := p
    simp only at r1 r2 HL
    clear hx hs hat
    go_enter Tryd.func97, Tryd.ntmps97
    go_wp2_with (go_at_call 52; (with_reducible refine (HL.out _ (by (try show Ex _ _); repeat (first | (with_reducible exact ex_refl _) | (with_reducible assumption) | (with_reducible refine ex_drewL ?_) | (with_reducible refine ex_appR ?_ _) | (with_reducible refine ex_wx ?_ _) | (with_reducible refine ex_drew ?_) | (with_reducible refine ex_alloc ?_ _)))).mono ?_); rintro e w2 ⟨rfl, X, rfl⟩)
    exact ret_rowV (cs := rowB 32 (dF z)) (v := .bool true) Tryd.results97 Tryd.underlying26 rfl info_id rfl (by simp [go_sem]) rfl rfl (post_mk rfl (by (try show Ex _ _); repeat (first | (with_reducible exact ex_refl _) | (with_reducible assumption) | (with_reducible refine ex_drewL ?_) | (with_reducible refine ex_appR ?_ _) | (with_reducible refine ex_wx ?_ _) | (with_reducible refine ex_drew ?_) | (with_reducible refine ex_alloc ?_ _))))
theorem climbW_any (l : List Pr) (a : Option Addr) (c bl : Nat) (w : World) (G : Glob w) (hL : l.length ≤ 1000) (hc : l.length ≤ c) (hcm : c ≤ maxLen) (hs : SlP w a l) (hb : w.cell? ⟨bl, 0, none⟩ = some (.slice a l.length c)) (hbl : bl < w.heap.size)
    (at_ n : Nat) (h1 : 1 ≤ n) (hat : at_ + n ≤ l.length) :
    Calls Tryd.prog 72 #[I at_, I n, .func (.func 97) #[] #[.pointer (some ⟨bl, 0, none⟩)]] w (Post w (.agg (rowB 32 (dF (topP ((l.drop at_).take n)))))) := by
  have h := climbT_any (invE_ok G) (FW l) 97 #[.pointer (some ⟨bl, 0, none⟩)] l.length hL (fun _ _ => by simp [go_sem]) (fun _ _ => rfl) (fun _ _ => True) (fun _ _ _ _ _ _ => trivial) (fun _ _ _ _ _ => trivial)
    (fun p at_ n s w' h1 hat _ hI => (whole1_any G l a c bl hc hcm hs hb hbl at_ n h1 hat w' hI.1).mono fun e w2 ⟨he, k⟩ => ⟨he, held_ex k fun b hb => (hI.2 b hb).2, (invE_ok G).grow _ hI k fun b hb => .inl hb⟩) n at_ () (fun _ => False) w h1 hat trivial ⟨ex_refl w, fun _ h => h.elim⟩
  rw [treeW l n at_ h1 hat] at h
  exact h.mono fun e w' ⟨h2, _, h3⟩ => ⟨h2, h3.1⟩
theorem whole_any (a : Option Addr) (n c : Nat) (w : World) : Calls Tryd.prog 73 #[.slice a n c] w fun e w' => e = .returned (.func (.func 97) #[] #[.pointer (some ⟨w.heap.size, 0, none⟩)]) ∧ w' = w.alloc (.cells #[.slice a n c] 53) := by
  have hmf : ∀ (fn : Fn) (first cap : Array Value) (w : World), (Instr.makeFunc fn first cap).run Tryd.prog w = .ok (.func fn first cap) w := fun _ _ _ _ => rfl
  go_enter Tryd.func73, Tryd.ntmps73
  go_wp2
  go_ret
  exact ⟨rfl, rfl⟩
end Go.Proofs.YtbobamifpjlmiaaDoor

/- Root of pairs: both texts. -/
set_option linter.unusedSimpArgs false
set_option linter.unusedVariables false
set_option maxRecDepth 20000
namespace Go.Proofs.YtbobamifpjlmiaaDoor
open Go.RowKit
@[go_sem] theorem lit_z32 : Value.agg #[.int .u8 0, .int .u8 0, .int .u8 0, .int .u8 0, .int .u8 0, .int .u8 0, .int .u8 0, .int .u8 0, .int .u8 0, .int .u8 0, .int .u8 0, .int .u8 0, .int .u8 0, .int .u8 0, .int .u8 0, .int .u8 0, .int .u8 0, .int .u8 0, .int .u8 0, .int .u8 0, .int .u8 0, .int .u8 0, .int .u8 0, .int .u8 0, .int .u8 0, .int .u8 0, .int .u8 0, .int .u8 0, .int .u8 0, .int .u8 0, .int .u8 0, .int .u8 0] = .agg (rowB 32 fun _ => 0) := by kernel_rfl
theorem ex_cell {A w : World} (k : Ex A w) {a : Addr} {v : Value} (h : A.cell? a = some v) (hb : a.block < A.heap.size) : w.cell? a = some v := by
  obtain ⟨X, rfl⟩ := k; rw [wx_cell _ _ _ hb]; exact h
theorem right_len {l : List Pr} (h : rightP l = true) : l.length ≤ 200 := by
  rcases Nat.lt_or_ge 200 l.length with h2 | h2
  · have := right_iff.1 h 200 h2
    simp [badAt] at this
  · exact h2
theorem right_size {l : List Pr} (h : rightP l = true) {i : Nat} (hi : i < l.length) : 1 ≤ (prAt l i).1.size ∧ (prAt l i).1.size ≤ 200 ∧ (prAt l i).2.size ≤ 1000 := by
  have h1 := right_iff.1 h i hi
  have h2 : ¬ ((prAt l i).1.size < 1 ∨ 200 < (prAt l i).1.size ∨ 1000 < (prAt l i).2.size ∨ (0 < i ∧ ltS (prAt l (i - 1)).1 (prAt l i).1 = false) ∨ i = 200) := fun hc => by
    rw [(bad_iff l i).2 hc] at h1; cases h1
  omega
/-- A closure over pairs that was made. -/
def PostWh (a : Option Addr) (n c : Nat) (W : World) (e : Ending) (w' : World) : Prop := ∃ b, e = .returned (.func (.func 97) #[] #[.pointer (some ⟨b, 0, none⟩)]) ∧ w'.cell? ⟨b, 0, none⟩ = some (.slice a n c) ∧ b < w'.heap.size ∧ ∃ X, w' = wx W X
theorem whole_post (a : Option Addr) (n c : Nat) (w : World) : Calls Tryd.prog 73 #[.slice a n c] w (PostWh a n c w) :=
  (whole_any a n c w).mono fun e w' ⟨h1, h2⟩ => ⟨w.heap.size, h1, by subst h2; simp [go_sem], by subst h2; simp [go_sem], by subst h2; exact (by (try show Ex _ _); repeat (first | (with_reducible exact ex_refl _) | (with_reducible assumption) | (with_reducible refine ex_drewL ?_) | (with_reducible refine ex_appR ?_ _) | (with_reducible refine ex_wx ?_ _) | (with_reducible refine ex_drew ?_) | (with_reducible refine ex_alloc ?_ _)))⟩
def rootR (l : List Pr) : Dg := if rightP l then rootP l else zeroD
set_option maxHeartbeats 1000000 in
theorem sroot_any {w0 : World} (G : Glob w0) (l : List Pr) (a : Option Addr) (c : Nat) (w : World) (k0 : Ex w0 w) (hc : l.length ≤ c) (hcm : c ≤ maxLen) (hs : SlP w a l) :
    Calls Tryd.prog 37 #[.slice a l.length c] w (Post w (.tuple #[.agg (rowB 32 (dF (rootR l))), I (chkP l)])) := by
  replace G := G.ex k0
  clear k0
  have HC : Hid (∀ w', Ex w w' → Calls Tryd.prog 39 #[.slice a l.length c] w' (Post w' (I (chkP l)))) := Lib.hid fun w' k => Check_any l a c w' hc hcm (hs.ex k)
  unfold rootR
  unfold chkP at HC ⊢
  cases hr : rightP l with
  | false =>
    rw [hr] at HC
    simp only [Bool.false_eq_true, if_false] at HC ⊢
    rw [row_zero]
    generalize l.length = n at HC hc
    clear hs hr
    go_enter Tryd.func37, Tryd.ntmps37
    go_wp2_with (go_at_call 39; (with_reducible refine (HC.out _ (by (try show Ex _ _); repeat (first | (with_reducible exact ex_refl _) | (with_reducible assumption) | (with_reducible refine ex_drewL ?_) | (with_reducible refine ex_appR ?_ _) | (with_reducible refine ex_wx ?_ _) | (with_reducible refine ex_drew ?_) | (with_reducible refine ex_alloc ?_ _)))).mono ?_); rintro e w2 ⟨rfl, X, rfl⟩)
    exact ret_rowV (cs := rowB 32 fun _ => 0) (v := I 250) Tryd.results37 Tryd.underlying26 rfl info_id rfl (by simp [go_sem]) rfl rfl (post_mk rfl (by (try show Ex _ _); repeat (first | (with_reducible exact ex_refl _) | (with_reducible assumption) | (with_reducible refine ex_drewL ?_) | (with_reducible refine ex_appR ?_ _) | (with_reducible refine ex_wx ?_ _) | (with_reducible refine ex_drew ?_) | (with_reducible refine ex_alloc ?_ _))))
  | true =>
    rw [hr] at HC
    simp only [if_true] at HC ⊢
    have hl2 := right_len hr
    clear hr
    rcases Nat.eq_zero_or_pos l.length with h0 | hpos
    · obtain rfl := List.eq_nil_of_length_eq_zero h0
      have HK := Lib.hid (fun w' (k : Ex w w') => scrown_any G 0 zeroD w' k)
      have hR : crownD 0 zeroD = rootP [] := rfl
      rw [hR, row_zero] at HK
      generalize rootP [] = R at HK ⊢
      rw [List.length_nil] at HC ⊢
      clear hs hR h0
      go_enter Tryd.func37, Tryd.ntmps37
      go_wp2_with (first | (go_at_call 39; (with_reducible refine (HC.out _ (by (try show Ex _ _); repeat (first | (with_reducible exact ex_refl _) | (with_reducible assumption) | (with_reducible refine ex_drewL ?_) | (with_reducible refine ex_appR ?_ _) | (with_reducible refine ex_wx ?_ _) | (with_reducible refine ex_drew ?_) | (with_reducible refine ex_alloc ?_ _)))).mono ?_); rintro e w2 ⟨rfl, X, rfl⟩) | (go_at_call 57; (with_reducible refine (HK.out _ (by (try show Ex _ _); repeat (first | (with_reducible exact ex_refl _) | (with_reducible assumption) | (with_reducible refine ex_drewL ?_) | (with_reducible refine ex_appR ?_ _) | (with_reducible refine ex_wx ?_ _) | (with_reducible refine ex_drew ?_) | (with_reducible refine ex_alloc ?_ _)))).mono ?_); rintro e w2 ⟨rfl, X, rfl⟩))
      exact ret_rowV (cs := rowB 32 (dF R)) (v := I 0) Tryd.results37 Tryd.underlying26 rfl info_id rfl (by simp [go_sem]) rfl rfl (post_mk rfl (by (try show Ex _ _); repeat (first | (with_reducible exact ex_refl _) | (with_reducible assumption) | (with_reducible refine ex_drewL ?_) | (with_reducible refine ex_appR ?_ _) | (with_reducible refine ex_wx ?_ _) | (with_reducible refine ex_drew ?_) | (with_reducible refine ex_alloc ?_ _))))
    · have HK := Lib.hid (fun w' (k : Ex w w') => scrown_any G l.length (topP l) w' k)
      have hR : crownD l.length (topP l) = rootP l := rfl
      rw [hR] at HK
      have hW : Hid (∀ W b, Ex w W → W.cell? ⟨b, 0, none⟩ = some (.slice a l.length c) → b < W.heap.size → Calls Tryd.prog 72 #[I 0, I l.length, .func (.func 97) #[] #[.pointer (some ⟨b, 0, none⟩)]] W (Post W (.agg (rowB 32 (dF (topP l)))))) := Lib.hid fun W b k h1 h2 => by
        have := climbW_any l a c b W (G.ex k) (by omega) hc hcm (hs.ex k) h1 h2 0 l.length hpos (by omega)
        rwa [List.drop_zero, List.take_length] at this
      generalize rootP l = R at HK ⊢
      generalize topP l = T at HK hW
      generalize l.length = n at HC hc HK hW hpos hl2
      clear hs hR
      have e0 : ((n : Int) == 0) = false := beq_eq_false_iff_ne.2 (by omega)
      have HWh := Lib.hid (fun w' => whole_post a n c w')
      go_enter Tryd.func37, Tryd.ntmps37
      go_wp2_with (first | (go_at_call 39; (with_reducible refine (HC.out _ (by (try show Ex _ _); repeat (first | (with_reducible exact ex_refl _) | (with_reducible assumption) | (with_reducible refine ex_drewL ?_) | (with_reducible refine ex_appR ?_ _) | (with_reducible refine ex_wx ?_ _) | (with_reducible refine ex_drew ?_) | (with_reducible refine ex_alloc ?_ _)))).mono ?_); rintro e w2 ⟨rfl, X, rfl⟩) | (go_at_call 57; (with_reducible refine (HK.out _ (by (try show Ex _ _); repeat (first | (with_reducible exact ex_refl _) | (with_reducible assumption) | (with_reducible refine ex_drewL ?_) | (with_reducible refine ex_appR ?_ _) | (with_reducible refine ex_wx ?_ _) | (with_reducible refine ex_drew ?_) | (with_reducible refine ex_alloc ?_ _)))).mono ?_); rintro e w2 ⟨rfl, X, rfl⟩) | (go_at_call 73; (with_reducible refine (HWh.out _).mono ?_); rintro e w2 ⟨b, rfl, kb1, kb2, X2, rfl⟩; (try simp only [wx_wx] at kb1 kb2)) | (go_at_call 72; (with_reducible refine (hW.out _ _ (by (try show Ex _ _); repeat (first | (with_reducible exact ex_refl _) | (with_reducible assumption) | (with_reducible refine ex_drewL ?_) | (with_reducible refine ex_appR ?_ _) | (with_reducible refine ex_wx ?_ _) | (with_reducible refine ex_drew ?_) | (with_reducible refine ex_alloc ?_ _))) kb1 kb2).mono ?_); rintro e w2 ⟨rfl, X3, rfl⟩))
      exact ret_rowV (cs := rowB 32 (dF R)) (v := I 0) Tryd.results37 Tryd.underlying26 rfl info_id rfl (by simp [go_sem]) rfl rfl (post_mk rfl (by (try show Ex _ _); repeat (first | (with_reducible exact ex_refl _) | (with_reducible assumption) | (with_reducible refine ex_drewL ?_) | (with_reducible refine ex_appR ?_ _) | (with_reducible refine ex_wx ?_ _) | (with_reducible refine ex_drew ?_) | (with_reducible refine ex_alloc ?_ _))))
end Go.Proofs.YtbobamifpjlmiaaDoor

/- What the proof of a range keeps while the tree is climbed. -/
set_option linter.unusedSimpArgs false
set_option linter.unusedVariables false
set_option maxRecDepth 20000
namespace Go.Proofs.YtbobamifpjlmiaaDoor
open Go.RowKit
structure InvP (A : World) (bs : Nat) (c0 c1 c2 : Value) (p : Nat → Prop) (path : List Dg) (w : World) : Prop where
  ex : Ex A w
  low : ∀ b, p b → A.heap.size ≤ b ∧ b < w.heap.size ∧ b ≠ bs
  bsA : A.heap.size ≤ bs
  row : ∃ v, w.heap[bs]? = some (.cells #[c0, c1, c2, v] 65 (0, 0)) ∧ OwnD w (bs + 1) v path ∧ ∀ g, v.ownBlock = some g → ¬ p g
theorem own_kept {w w' : World} {Z : Nat} {t : TypeId} {s : Nat} {v : Value} {n : Nat} {xs : List Value} (h : w.ownsRow Z t s v n xs) (hg : ∀ g, v.ownBlock = some g → w'.heap[g]? = w.heap[g]?) : w'.ownsRow Z t s v n xs := by
  refine ⟨h.1, ?_⟩
  rcases h.2 with h2 | ⟨g, cap, cur, rfl, h3, h4, h5⟩
  · exact .inl h2
  · exact .inr ⟨g, cap, cur, rfl, h3, (hg g rfl).trans h4, h5⟩
theorem invP_ok {A : World} (G : Glob A) (bs : Nat) (c0 c1 c2 : Value) : Inv4 (InvP A bs c0 c1 c2) where
  glob := fun h => G.ex h.ex
  low := fun h hb => (h.low _ hb).2.1
  grow := fun {p s w} q w' h k hq => by
    have h1 := ex_size h.ex
    have h2 := ex_size k
    obtain ⟨v, r1, r2, r3⟩ := h.row
    have hbs : bs < w.heap.size := (Array.getElem?_eq_some_iff.1 r1).1
    refine ⟨ex_trans h.ex k, fun b hb => ?_, h.bsA, v, ex_block k r1, r2.ex k, fun g hg hqg => ?_⟩
    · rcases hq b hb with h3 | ⟨h3, h4⟩
      · have := h.low b h3
        omega
      · omega
    · rcases hq g hqg with h3 | ⟨h3, h4⟩
      · exact r3 g hg h3
      · have := (r2.lt g hg).2
        omega
  set := fun {p s w b} o vs h hb => by
    obtain ⟨v, r1, r2, r3⟩ := h.row
    have hl := h.low b hb
    refine ⟨ex_setCells h.ex hl.1 o vs, fun b2 hb2 => by rw [setCells_size]; exact h.low b2 hb2, h.bsA, v, ?_, ?_, r3⟩
    · rw [setCells_heap _ _ _ _ _ (Ne.symm hl.2.2)]; exact r1
    · exact own_kept r2 fun g hg => setCells_heap _ _ _ _ _ fun e => r3 g hg (e ▸ hb)
def FP (l : List Pr) (first end_ : Nat) (at_ n : Nat) (path : List Dg) : Option Dg × List Dg :=
  if at_ + n ≤ first ∨ end_ ≤ at_ then (some (topP ((l.drop at_).take n)), path ++ [topP ((l.drop at_).take n)]) else if n = 1 then (some zeroD, path) else (none, path)
theorem wpAppAt {ops : Array Oper} {rest : List Oper} {o : Oper} {a : Act} {w : World} {Q : Exit → Act → World → Prop} (s x : Operand) (hgd : o.guard = none)
    (ho : o.op = .call { callee := .builtin .append, args := #[s, x], argTypes := #[22, 22] })
    {Z : Nat} {v : Value} {l r : List Dg} {g off m c : Nat} (hown : OwnD w Z v l) (hs : a.eval s = v) (hx : a.eval x = .slice (some ⟨g, off, none⟩) m c) (hm : m = r.length) (hr : SlD w (some ⟨g, off, none⟩) r) (hlen : l.length + r.length ≤ 1000000) (hZ : Z ≤ w.heap.size)
    (h : ∀ v' w', OwnD w' Z v' (l ++ r) → w.grownBy w' v.ownBlock → (v'.ownBlock = v.ownBlock ∨ v'.ownBlock = some w.heap.size) → wpList Tryd.prog ops Q rest (a.put o.dst v') w') : wpList Tryd.prog ops Q (o :: rest) a w := by
  subst hm
  obtain ⟨i, hi, h1', h2', h3'⟩ := info_parts appId.hi
  refine wpList_append_own_at w hgd s x _ ho Z _ i _ _ _ appId.ht hi h1' h2' h3' appId.hzs appId.hsz v _ _ hs hown ⟨g, off, none⟩ r.length c (r.flatMap KD) hx (flat_len KD_len r) (sld_news hr) (KD_one r) (by unfold maxLen; omega) (by omega) hZ fun v' w' k1 k2 _ k3 => ?_
  rw [← List.flatMap_append, ← List.length_append] at k1
  exact h v' w' k1 k2 k3
theorem setCell_heap {w : World} {b o : Nat} (v : Value) {k : Nat} (h : k ≠ b) : (w.setCell ⟨b, o, none⟩ v).heap[k]? = w.heap[k]? := by
  simp only [World.setCell, Array.getElem?_modify]
  rw [if_neg (by simpa using Ne.symm h)]
theorem setCell_block {w : World} {b o : Nat} {cs : Array Value} {t : TypeId} {fr : Nat × Nat} (v : Value) (h : w.heap[b]? = some (.cells cs t fr)) : (w.setCell ⟨b, o, none⟩ v).heap[b]? = some (.cells (cs.setIfInBounds o v) t fr) := by
  simp [World.setCell, Array.getElem?_modify, h]
theorem setCell_sizeR (w : World) (a : Addr) (v : Value) : (w.setCell a v).heap.size = w.heap.size := by simp [World.setCell]
theorem block_cell {w : World} {b o : Nat} {cs : Array Value} {t : TypeId} {v : Value} (h : w.heap[b]? = some (.cells cs t (0, 0))) (hv : cs[o]? = some v) : w.cell? ⟨b, o, none⟩ = some v ∧ w.frozen? ⟨b, o, none⟩ = false := by
  refine ⟨?_, ?_⟩
  · rw [cell_of_row w b o cs t (0, 0) h]; exact hv
  · simp [World.frozen?, h]
theorem invP_post {A w w' : World} (G : Glob A) {bs : Nat} {c0 c1 c2 : Value} {p : Nat → Prop} {path : List Dg} (hI : InvP A bs c0 c1 c2 p path w) {v : Value} {e : Ending} (he : e = .returned v) (k : Ex w w') : PostC (InvP A bs c0 c1 c2) p path w v e w' :=
  ⟨he, held_ex k fun b hb => (hI.low b hb).2.1, (invP_ok G bs c0 c1 c2).grow _ hI k fun b hb => .inl hb⟩
/-- Behind the digest that was put behind the path. -/
theorem invP_end {A w w4 w6 : World} {bs : Nat} {c0 c1 c2 : Value} {p : Nat → Prop} {path : List Dg} {v v' : Value} {d : Dg} (hI : InvP A bs c0 c1 c2 p path w) (K4 : Ex w w4) (h4 : w.heap.size < w4.heap.size)
    (hv : ∀ g, v.ownBlock = some g → ¬ p g ∧ bs + 1 ≤ g ∧ g < w.heap.size) (hb : w.heap[bs]? = some (.cells #[c0, c1, c2, v] 65 (0, 0))) {o1 o2 : Obj}
    (k1 : OwnD w6 (bs + 1) v' (path ++ [d])) (k2 : ((w4.alloc o1).alloc o2).grownBy w6 v.ownBlock) (k3 : v'.ownBlock = v.ownBlock ∨ v'.ownBlock = some ((w4.alloc o1).alloc o2).heap.size) (f : Nat → UInt8) :
    HeldP p w ((w6.setCell ⟨bs, 3, none⟩ v').setCells w.heap.size 0 (rowB 32 f).toList) ∧ InvP A bs c0 c1 c2 p (path ++ [d]) ((w6.setCell ⟨bs, 3, none⟩ v').setCells w.heap.size 0 (rowB 32 f).toList) := by
  have hs5 : ((w4.alloc o1).alloc o2).heap.size = w4.heap.size + 2 := by simp [go_sem]
  have hs6 := k2.size
  have hsE : ((w6.setCell ⟨bs, 3, none⟩ v').setCells w.heap.size 0 (rowB 32 f).toList).heap.size = w6.heap.size := by rw [setCells_size, setCell_sizeR]
  have hbs : bs < w.heap.size := (Array.getElem?_eq_some_iff.1 hb).1
  have hA := ex_size hI.ex
  have keep : ∀ b, b < w.heap.size → b ≠ bs → v.ownBlock ≠ some b → ((w6.setCell ⟨bs, 3, none⟩ v').setCells w.heap.size 0 (rowB 32 f).toList).heap[b]? = w.heap[b]? := fun b h1 h2 h3 => by
    rw [setCells_heap _ _ _ _ _ (by omega), setCell_heap _ h2, k2.block b (by omega) (fun e => h3 e.symm), ex_of_alloc _ _ _ (by simp [go_sem]; omega), ex_of_alloc _ _ _ (by omega)]
    obtain ⟨X, rfl⟩ := K4
    exact wx_heap _ _ _ h1
  have hvb : v.ownBlock ≠ some bs := fun e => by have := (hv bs e).2.1; omega
  have hb6 : w6.heap[bs]? = some (.cells #[c0, c1, c2, v] 65 (0, 0)) := by
    rw [k2.block bs (by omega) (fun e => hvb e.symm), ex_of_alloc _ _ _ (by simp [go_sem]; omega), ex_of_alloc _ _ _ (by omega)]
    exact ex_block K4 hb
  refine ⟨⟨by omega, fun b hpb => ?_⟩, ⟨?_, fun b hpb => ?_, hI.bsA, v', ?_, ?_, fun g hg hpg => ?_⟩⟩
  · have := hI.low b hpb
    exact keep b this.2.1 this.2.2 fun e => (hv b e).1 hpb
  · have kk : Ex A ((w4.alloc o1).alloc o2) := ex_alloc (ex_alloc (ex_trans hI.ex K4) _) _
    have k6 : Ex A w6 := ex_of_below ((ex_below kk).grown k2 (ex_size kk) fun g hg => by have := hv g hg; have := hI.bsA; omega)
    exact ex_setCells (ex_set k6 (p := ⟨bs, 3, none⟩) hI.bsA v') (by omega) _ _
  · have := hI.low b hpb
    omega
  · rw [setCells_heap _ _ _ _ _ (by omega)]
    exact setCell_block v' hb6
  · refine own_kept k1 fun g hg => ?_
    have hlt := (k1.lt g hg).1
    rw [setCells_heap _ _ _ _ _ ?_, setCell_heap _ (by omega)]
    rcases k3 with k3 | k3
    · rw [k3] at hg
      have := hv g hg
      omega
    · rw [k3] at hg
      have := Option.some.inj hg
      omega
  · rcases k3 with k3 | k3
    · rw [k3] at hg
      exact (hv g hg).1 hpg
    · rw [k3] at hg
      have h1 := Option.some.inj hg
      have h2 := hI.low g hpg
      omega
/-- What stands behind the append. -/
theorem prv_facts {w w4 w6 : World} {bs : Nat} {c0 c1 c2 : Value} {p : Nat → Prop} {path : List Dg} {v v' : Value} {d : Dg} (K4 : Ex w w4) (h4 : w.heap.size < w4.heap.size)
    (hv : ∀ g, v.ownBlock = some g → ¬ p g ∧ bs + 1 ≤ g ∧ g < w.heap.size) (hb : w.heap[bs]? = some (.cells #[c0, c1, c2, v] 65 (0, 0))) {o2 : Obj} (h8 : w4.heap[w.heap.size]? = some (.cells (rowB 32 fun _ => 0) 26 (0, 0)))
    (k1 : OwnD w6 (bs + 1) v' (path ++ [d])) (k2 : ((w4.alloc (.cells (rowB 32 (dF d)) 26)).alloc o2).grownBy w6 v.ownBlock) :
    w6.cell? ⟨bs, 3, none⟩ = some v ∧ w6.frozen? ⟨bs, 3, none⟩ = false ∧ (∀ u, cellsN (w6.setCell ⟨bs, 3, none⟩ u) w4.heap.size 0 32 = some (rowB 32 (dF d))) ∧ (∀ u, cellsN (w6.setCell ⟨bs, 3, none⟩ u) w.heap.size 0 32 = some (rowB 32 fun _ => 0)) ∧ (∀ u, frozenN (w6.setCell ⟨bs, 3, none⟩ u) w.heap.size 0 32 = false) ∧ bs < w6.heap.size ∧ ∀ u f, cellsN ((w6.setCell ⟨bs, 3, none⟩ u).setCells w.heap.size 0 (rowB 32 f).toList) w.heap.size 0 32 = some (rowB 32 f) := by
  have hs5 : ((w4.alloc (.cells (rowB 32 (dF d)) 26)).alloc o2).heap.size = w4.heap.size + 2 := by simp [go_sem]
  have hs6 := k2.size
  have hbs : bs < w.heap.size := (Array.getElem?_eq_some_iff.1 hb).1
  have hvb : v.ownBlock ≠ some bs := fun e => by have := (hv bs e).2.1; omega
  have hb6 : w6.heap[bs]? = some (.cells #[c0, c1, c2, v] 65 (0, 0)) := by
    rw [k2.block bs (by omega) (fun e => hvb e.symm), ex_of_alloc _ _ _ (by simp [go_sem]; omega), ex_of_alloc _ _ _ (by omega)]
    exact ex_block K4 hb
  have h86 : w6.heap[w.heap.size]? = some (.cells (rowB 32 fun _ => 0) 26 (0, 0)) := by
    rw [k2.block _ (by omega) (fun e => by have := (hv _ e.symm).2.2; omega), ex_of_alloc _ _ _ (by simp [go_sem]; omega), ex_of_alloc _ _ _ h4]
    exact h8
  have h46 : w6.heap[w4.heap.size]? = some (.cells (rowB 32 (dF d)) 26 (0, 0)) := by
    rw [k2.block _ (by omega) (fun e => by have := (hv _ e.symm).2.2; omega), ex_of_alloc _ _ _ (by simp [go_sem])]
    exact heap_alloc_new _ _
  obtain ⟨t1, t2⟩ := block_cell (o := 3) hb6 rfl
  refine ⟨t1, t2, fun u => ?_, fun u => ?_, fun u => ?_, by omega, fun u f => ?_⟩
  · exact (block_cells (n := 32) ((setCell_heap u (by omega)).trans h46) (by simp)).1
  · exact (block_cells (n := 32) ((setCell_heap u (by omega)).trans h86) (by simp)).1
  · exact (block_cells (n := 32) ((setCell_heap u (by omega)).trans h86) (by simp)).2.1
  · have h10 : (w6.setCell ⟨bs, 3, none⟩ u).heap[w.heap.size]? = some (.cells (rowB 32 fun _ => 0) 26 (0, 0)) := (setCell_heap u (by omega)).trans h86
    have h9 := setCells_block w.heap.size 26 (0, 0) (rowB 32 f).toList 0 _ _ h10
    rw [splice_row] at h9
    exact (block_cells (n := 32) h9 (by simp)).1
set_option maxHeartbeats 2000000 in
theorem prove1_any {A : World} (G : Glob A) (l : List Pr) (a : Option Addr) (c bf be bl bs first end_ : Nat) (c0 c1 c2 : Value) (hL : l.length ≤ 1000) (hc : l.length ≤ c) (hcm : c ≤ maxLen) (hs : SlP A a l)
    (hbf : A.cell? ⟨bf, 0, none⟩ = some (I first) ∧ bf < A.heap.size) (hbe : A.cell? ⟨be, 0, none⟩ = some (I end_) ∧ be < A.heap.size) (hbl : A.cell? ⟨bl, 0, none⟩ = some (.slice a l.length c) ∧ bl < A.heap.size)
    (at_ n : Nat) (h1 : 1 ≤ n) (hat : at_ + n ≤ l.length) (path : List Dg) (hq : path.length ≤ at_) (p : Nat → Prop) (w : World) (hI : InvP A bs c0 c1 c2 p path w) :
    Calls Tryd.prog 77 #[I at_, I n, .pointer (some ⟨bf, 0, none⟩), .pointer (some ⟨be, 0, none⟩), .pointer (some ⟨bl, 0, none⟩), .pointer (some ⟨bs, 0, none⟩)] w
      (PostC (InvP A bs c0 c1 c2) p (FP l first end_ at_ n path).2 w (.tuple #[.agg (rowB 32 (dF ((FP l first end_ at_ n path).1.getD zeroD))), .bool (FP l first end_ at_ n path).1.isSome])) := by
  have b1 := ex_cell hI.ex hbf.1 hbf.2
  have b2 := ex_cell hI.ex hbe.1 hbe.2
  have b3 := ex_cell hI.ex hbl.1 hbl.2
  have hA := ex_size hI.ex
  have b4 : bf < w.heap.size := by omega
  have b5 : be < w.heap.size := by omega
  have b6 : bl < w.heap.size := by omega
  have HSl : Hid (SlP w a l) := Lib.hid (hs.ex hI.ex)
  have GW : Hid (Glob w) := Lib.hid (G.ex hI.ex)
  have HI := Lib.hid hI
  clear hbf hbe hbl hs hA
  by_cases ho : at_ + n ≤ first ∨ end_ ≤ at_
  · have hx : FP l first end_ at_ n path = (some (topP ((l.drop at_).take n)), path ++ [topP ((l.drop at_).take n)]) := by unfold FP; rw [if_pos ho]
    rw [hx]
    simp only [Option.getD_some, Option.isSome_some]
    have hW : Hid (∀ W b, Ex w W → W.cell? ⟨b, 0, none⟩ = some (.slice a l.length c) → b < W.heap.size → Calls Tryd.prog 72 #[I at_, I n, .func (.func 97) #[] #[.pointer (some ⟨b, 0, none⟩)]] W (Post W (.agg (rowB 32 (dF (topP ((l.drop at_).take n))))))) := Lib.hid fun W b k h1' h2 =>
      climbW_any l a c b W (GW.out.ex k) hL hc hcm (HSl.out.ex k) h1' h2 at_ n h1 hat
    have HWh := Lib.hid (fun w' => whole_post a l.length c w')
    generalize topP ((l.drop at_).take n) = d at hW ⊢
    generalize hlen : l.length = L at b3 hW HWh hc hat hL
    have b7 : path.length ≤ 1000 := by omega
    obtain ⟨v, r1, r2, r3⟩ := hI.row
    have hv : ∀ g, v.ownBlock = some g → ¬ p g ∧ bs + 1 ≤ g ∧ g < w.heap.size := fun g hg => ⟨r3 g hg, r2.lt g hg⟩
    have hbs : bs < w.heap.size := (Array.getElem?_eq_some_iff.1 r1).1
    have HV := Lib.hid hv
    have HR1 := Lib.hid r1
    have HO := Lib.hid r2
    clear hv r1 r2 r3 hI hx hlen
    have e1 : (at_ : Int) + n = ((at_ + n : Nat) : Int) := by omega
    have hzz : bs ≠ w.heap.size := by omega
    go_enter Tryd.func77, Tryd.ntmps77
    by_cases d1 : at_ + n ≤ first
    · have d1t : decide ((at_ : Int) + n ≤ first) = true := decide_eq_true (by omega)
      clear d1 ho e1
      go_wp2_with (first | (go_at_call 73; (with_reducible refine (HWh.out _).mono ?_); rintro e w2 ⟨b, rfl, kb1, kb2, X2, rfl⟩; (try simp only [wx_wx] at kb1 kb2)) | (go_at_call 72; (with_reducible refine (hW.out _ _ (by (try show Ex _ _); repeat (first | (with_reducible exact ex_refl _) | (with_reducible assumption) | (with_reducible refine ex_drewL ?_) | (with_reducible refine ex_appR ?_ _) | (with_reducible refine ex_wx ?_ _) | (with_reducible refine ex_drew ?_) | (with_reducible refine ex_alloc ?_ _))) kb1 kb2).mono ?_); rintro e w4 ⟨rfl, k4⟩; have K8 : Ex (w.alloc (.cells (rowB 32 fun _ => 0) 26)) w4 := ex_trans (by (try show Ex _ _); repeat (first | (with_reducible exact ex_refl _) | (with_reducible assumption) | (with_reducible refine ex_drewL ?_) | (with_reducible refine ex_appR ?_ _) | (with_reducible refine ex_wx ?_ _) | (with_reducible refine ex_drew ?_) | (with_reducible refine ex_alloc ?_ _))) (show Ex _ w4 from k4); have K4 : Ex w w4 := ex_trans (by (try show Ex _ _); repeat (first | (with_reducible exact ex_refl _) | (with_reducible assumption) | (with_reducible refine ex_drewL ?_) | (with_reducible refine ex_appR ?_ _) | (with_reducible refine ex_wx ?_ _) | (with_reducible refine ex_drew ?_) | (with_reducible refine ex_alloc ?_ _))) K8; have s1 := ex_block K4 HR1.out; obtain ⟨s3, s4⟩ := block_cell (o := 3) s1 rfl; have s5 : bs < w4.heap.size := (Array.getElem?_eq_some_iff.1 s1).1; have s6 := ex_block K8 (heap_alloc_new _ _); obtain ⟨q1, q2, q3⟩ := block_cells (n := 32) s6 (by simp); have hO4 := Lib.hid (HO.out.ex K4); have S6 := Lib.hid s6; clear s1 s6 k4 kb1 kb2 K8) | (at_builtin; refine wpAppAt _ _ rfl rfl (hO4.out.ex (by (try show Ex _ _); repeat (first | (with_reducible exact ex_refl _) | (with_reducible assumption) | (with_reducible refine ex_drewL ?_) | (with_reducible refine ex_appR ?_ _) | (with_reducible refine ex_wx ?_ _) | (with_reducible refine ex_drew ?_) | (with_reducible refine ex_alloc ?_ _)))) rfl rfl rfl (sld_one d (by (try show Ex _ _); repeat (first | (with_reducible exact ex_refl _) | (with_reducible assumption) | (with_reducible refine ex_drewL ?_) | (with_reducible refine ex_appR ?_ _) | (with_reducible refine ex_wx ?_ _) | (with_reducible refine ex_drew ?_) | (with_reducible refine ex_alloc ?_ _))) (by simp [go_sem])) (by simp; omega) (by simp [go_sem]; omega) (fun v6 w6 k1 k2 k3 => ?_); obtain ⟨sa, sc, rfl, _, _, _⟩ := own_form k1; obtain ⟨z1, z2⟩ := invP_end HI.out K4 q3 HV.out HR1.out k1 k2 k3 (dF d); obtain ⟨y1, y2, y3, y4, y5, y6, y7⟩ := prv_facts K4 q3 HV.out HR1.out S6.out k1 k2; replace y7 := Lib.hid y7; (try simp only [List.length_append, List.length_singleton] at z1 z2); replace k1 := Lib.hid k1; replace k2 := Lib.hid k2; replace k3 := Lib.hid k3; replace z1 := Lib.hid z1; replace z2 := Lib.hid z2))
      exact ret_rowV (cs := rowB 32 (dF d)) (v := .bool true) Tryd.results77 Tryd.underlying26 rfl info_id rfl (y7.out _ _) rfl rfl ⟨rfl, z1.out, z2.out⟩
    · have d1t : decide ((at_ : Int) + n ≤ first) = false := decide_eq_false (by omega)
      have d2t : decide ((end_ : Int) ≤ at_) = true := decide_eq_true (by omega)
      have d2u : decide (end_ ≤ at_) = true := decide_eq_true (by omega)
      clear d1 ho e1
      go_wp2_with (first | (go_at_call 73; (with_reducible refine (HWh.out _).mono ?_); rintro e w2 ⟨b, rfl, kb1, kb2, X2, rfl⟩; (try simp only [wx_wx] at kb1 kb2)) | (go_at_call 72; (with_reducible refine (hW.out _ _ (by (try show Ex _ _); repeat (first | (with_reducible exact ex_refl _) | (with_reducible assumption) | (with_reducible refine ex_drewL ?_) | (with_reducible refine ex_appR ?_ _) | (with_reducible refine ex_wx ?_ _) | (with_reducible refine ex_drew ?_) | (with_reducible refine ex_alloc ?_ _))) kb1 kb2).mono ?_); rintro e w4 ⟨rfl, k4⟩; have K8 : Ex (w.alloc (.cells (rowB 32 fun _ => 0) 26)) w4 := ex_trans (by (try show Ex _ _); repeat (first | (with_reducible exact ex_refl _) | (with_reducible assumption) | (with_reducible refine ex_drewL ?_) | (with_reducible refine ex_appR ?_ _) | (with_reducible refine ex_wx ?_ _) | (with_reducible refine ex_drew ?_) | (with_reducible refine ex_alloc ?_ _))) (show Ex _ w4 from k4); have K4 : Ex w w4 := ex_trans (by (try show Ex _ _); repeat (first | (with_reducible exact ex_refl _) | (with_reducible assumption) | (with_reducible refine ex_drewL ?_) | (with_reducible refine ex_appR ?_ _) | (with_reducible refine ex_wx ?_ _) | (with_reducible refine ex_drew ?_) | (with_reducible refine ex_alloc ?_ _))) K8; have s1 := ex_block K4 HR1.out; obtain ⟨s3, s4⟩ := block_cell (o := 3) s1 rfl; have s5 : bs < w4.heap.size := (Array.getElem?_eq_some_iff.1 s1).1; have s6 := ex_block K8 (heap_alloc_new _ _); obtain ⟨q1, q2, q3⟩ := block_cells (n := 32) s6 (by simp); have hO4 := Lib.hid (HO.out.ex K4); have S6 := Lib.hid s6; clear s1 s6 k4 kb1 kb2 K8) | (at_builtin; refine wpAppAt _ _ rfl rfl (hO4.out.ex (by (try show Ex _ _); repeat (first | (with_reducible exact ex_refl _) | (with_reducible assumption) | (with_reducible refine ex_drewL ?_) | (with_reducible refine ex_appR ?_ _) | (with_reducible refine ex_wx ?_ _) | (with_reducible refine ex_drew ?_) | (with_reducible refine ex_alloc ?_ _)))) rfl rfl rfl (sld_one d (by (try show Ex _ _); repeat (first | (with_reducible exact ex_refl _) | (with_reducible assumption) | (with_reducible refine ex_drewL ?_) | (with_reducible refine ex_appR ?_ _) | (with_reducible refine ex_wx ?_ _) | (with_reducible refine ex_drew ?_) | (with_reducible refine ex_alloc ?_ _))) (by simp [go_sem])) (by simp; omega) (by simp [go_sem]; omega) (fun v6 w6 k1 k2 k3 => ?_); obtain ⟨sa, sc, rfl, _, _, _⟩ := own_form k1; obtain ⟨z1, z2⟩ := invP_end HI.out K4 q3 HV.out HR1.out k1 k2 k3 (dF d); obtain ⟨y1, y2, y3, y4, y5, y6, y7⟩ := prv_facts K4 q3 HV.out HR1.out S6.out k1 k2; replace y7 := Lib.hid y7; (try simp only [List.length_append, List.length_singleton] at z1 z2); replace k1 := Lib.hid k1; replace k2 := Lib.hid k2; replace k3 := Lib.hid k3; replace z1 := Lib.hid z1; replace z2 := Lib.hid z2))
      exact ret_rowV (cs := rowB 32 (dF d)) (v := .bool true) Tryd.results77 Tryd.underlying26 rfl info_id rfl (y7.out _ _) rfl rfl ⟨rfl, z1.out, z2.out⟩
  · have d1t : decide ((at_ : Int) + n ≤ first) = false := decide_eq_false (by omega)
    have d2t : decide ((end_ : Int) ≤ at_) = false := decide_eq_false (by omega)
    have d2u : decide (end_ ≤ at_) = false := decide_eq_false (by omega)
    clear HSl
    by_cases hn : n = 1
    · subst hn
      have d1u : decide ((at_ : Int) + 1 ≤ first) = false := decide_eq_false (by omega)
      have hx : FP l first end_ at_ 1 path = (some zeroD, path) := by unfold FP; rw [if_neg ho, if_pos rfl]
      rw [hx]
      simp only [Option.getD_some, Option.isSome_some]
      rw [row_zero]
      clear hx ho
      go_enter Tryd.func77, Tryd.ntmps77
      go_wp2
      exact ret_rowV (cs := rowB 32 fun _ => 0) (v := .bool true) Tryd.results77 Tryd.underlying26 rfl info_id rfl (by simp [go_sem]) rfl rfl (invP_post G HI.out rfl (by (try show Ex _ _); repeat (first | (with_reducible exact ex_refl _) | (with_reducible assumption) | (with_reducible refine ex_drewL ?_) | (with_reducible refine ex_appR ?_ _) | (with_reducible refine ex_wx ?_ _) | (with_reducible refine ex_drew ?_) | (with_reducible refine ex_alloc ?_ _))))
    · have hx : FP l first end_ at_ n path = (none, path) := by unfold FP; rw [if_neg ho, if_neg hn]
      have e0 : ((n : Int) == 1) = false := beq_eq_false_iff_ne.2 (by omega)
      rw [hx]
      simp only [Option.getD_none, Option.isSome_none]
      rw [row_zero]
      clear hx ho hn
      go_enter Tryd.func77, Tryd.ntmps77
      go_wp2
      exact ret_rowV (cs := rowB 32 fun _ => 0) (v := .bool false) Tryd.results77 Tryd.underlying26 rfl info_id rfl (by simp [go_sem]) rfl rfl (invP_post G HI.out rfl (by (try show Ex _ _); repeat (first | (with_reducible exact ex_refl _) | (with_reducible assumption) | (with_reducible refine ex_drewL ?_) | (with_reducible refine ex_appR ?_ _) | (with_reducible refine ex_wx ?_ _) | (with_reducible refine ex_drew ?_) | (with_reducible refine ex_alloc ?_ _))))
end Go.Proofs.YtbobamifpjlmiaaDoor
