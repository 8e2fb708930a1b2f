import Derived.Test.YtbobamifpjlmiaaDoorMDVer
import Derived.Test.YtbobamifpjlmiaaDoorMSProves

/- SearchVerifies: what it does. -/
set_option linter.unusedSimpArgs false
set_option linter.unusedVariables false
set_option maxRecDepth 20000
namespace Go.Proofs.YtbobamifpjlmiaaDoor
open Go.RowKit
/-! ### A slice of two digests -/
def buildRun2 (P : Program) (t : TypeId) (x y : Value) (w : World) : Result Next := ((Instr.buildSlice t 2 #[(0, x), (1, y)]).run P w).andThen fun x w' => .ok (.value x) w'
@[go_sem ↓ high] theorem run_build2_pre {P : Program} (ρ : Operand → Value) (d : Option Tmp) (t : TypeId) (x y : Operand) (ty : TypeId) (pos : String) (aft : Array Edge) (g : Option (Nat × Bool)) (w : World) :
    Sem.run P (execOp ρ ⟨d, .buildSlice t 2 #[(0, x), (1, y)], ty, pos, aft, g⟩) w = buildRun2 P t (ρ x) (ρ y) w := by
  simp only [execOp, Sem.run_bind, Sem.run_pure, buildRun2, List.map_toArray, List.map_cons, List.map_nil]
@[go_sem low] theorem buildRun2_other {P : Program} (t : TypeId) (x y : Value) (w : World) : buildRun2 P t x y w = ((Instr.buildSlice t 2 #[(0, x), (1, y)]).run P w).andThen fun x w' => .ok (.value x) w' := rfl
theorem buildRun2_id (a b : Dg) (w : World) : buildRun2 Tryd.prog 22 (.agg (rowB 32 (dF a))) (.agg (rowB 32 (dF b))) w = .ok (.value (.slice (some ⟨w.heap.size, 0, none⟩) 2 2)) (w.alloc (.cells (C2 a b) 26)) := by
  unfold buildRun2
  have hi : (Tryd.prog.info? 26).map (fun i => (i.zero, i.size)) = some (some (.agg (rowB 32 fun _ => 0)), 32) := by kernel_rfl
  obtain ⟨i, hi1, hi2⟩ := Option.map_eq_some_iff.1 hi
  simp only [Prod.mk.injEq] at hi2
  simp [Instr.buildSlice, run_underlying Tryd.underlying22, Go.sizeOf, typeInfo, zeroValue, hi1, hi2.1, hi2.2, Instr.fill, Value.cells, newRow, rowB_size]
  generalize hX : (if _ < 64 then none else _) = X
  have hX2 : X = some (C2 a b) := by
    rw [← hX]; kernel_rfl
  rw [hX2]
  simp [newObj]
  rfl
attribute [go_sem] buildRun2_id
theorem c2_at {w W : World} {a b : Dg} {g : Nat} (k : Ex (w.alloc (.cells (C2 a b) 26)) W) (hg : w.heap.size = g) : cellsN W g 0 32 = some (rowB 32 (dF a)) ∧ cellsN W g 32 32 = some (rowB 32 (dF b)) ∧ g < W.heap.size := by
  subst hg
  have h := ex_block k (heap_alloc_new w _)
  have hc : ∀ j, W.cell? ⟨w.heap.size, j, none⟩ = (C2 a b)[j]? := fun j => cell_of_row _ _ j _ _ _ h
  have h0 := C2_0 a b
  have h1 := C2_1 a b
  refine ⟨cellsN_some.2 ⟨rowB_size _ _, fun j hj => ?_⟩, cellsN_some.2 ⟨rowB_size _ _, fun j hj => ?_⟩, (Array.getElem?_eq_some_iff.1 h).1⟩
  · rw [hc, ← h0, Array.getElem?_extract, if_pos (by rw [C2_size]; omega)]
  · rw [hc, ← h1, Array.getElem?_extract, if_pos (by rw [C2_size]; omega)]
/-! ### What lies in memory is not the span's copy -/
theorem slp_move {W W' : World} {b : Nat} {zs : Array Value} {t : TypeId} {pa : Option Addr} {ps : List Pr} (hb : W.heap[b]? = some (.cells zs t (0, 0))) (hz : ∀ s, ¬ Value.string s ∈ zs) (hsz : W.heap.size ≤ W'.heap.size) (hs : ∀ g, g ≠ b → g < W.heap.size → W'.heap[g]? = W.heap[g]?) (h : SlP W pa ps) : SlP W' pa ps := by
  rcases h.out with h | ⟨g, off, h1, h2, h3⟩
  · exact ⟨Or.inl h⟩
  · refine ⟨Or.inr ⟨g, off, h1, by omega, fun i d hd => ?_⟩⟩
    have h4 := h3 i d hd
    have hg : g ≠ b := by
      rintro rfl
      have h5 := (cellsN_some.1 h4).2 0 (by decide)
      rw [cell_of_row W g _ zs t (0, 0) hb] at h5
      exact hz d.1 (Array.mem_of_getElem? (h5.trans rfl))
    rw [← h4]
    exact cellsN_congr fun j _ => by simp only [World.cell?, hs g hg h2]
theorem sld_move {W W' : World} {b : Nat} {zs : Array Value} {t : TypeId} {pa : Option Addr} {ps : List Dg} (hb : W.heap[b]? = some (.cells zs t (0, 0))) (hz : ∀ x, ¬ B x ∈ zs) (hsz : W.heap.size ≤ W'.heap.size) (hs : ∀ g, g ≠ b → g < W.heap.size → W'.heap[g]? = W.heap[g]?) (h : SlD W pa ps) : SlD W' pa ps := by
  rcases h.out with h | ⟨g, off, h1, h2, h3⟩
  · exact ⟨Or.inl h⟩
  · refine ⟨Or.inr ⟨g, off, h1, by omega, fun i d hd => ?_⟩⟩
    have h4 := h3 i d hd
    have hg : g ≠ b := by
      rintro rfl
      have h5 := (cellsN_some.1 h4).2 0 (by decide)
      rw [cell_of_row W g _ zs t (0, 0) hb, rowB_get, if_pos (by decide)] at h5
      exact hz _ (Array.mem_of_getElem? h5)
    rw [← h4]
    exact cellsN_congr fun j _ => by simp only [World.cell?, hs g hg h2]
theorem slp_turnG {w : World} {zs cs : Array Value} {t t' : TypeId} {X : More} {pa : Option Addr} {ps : List Pr} (hz : ∀ s, ¬ Value.string s ∈ zs) (h : SlP (wx (w.alloc (.cells zs t)) X) pa ps) : SlP (wx (w.alloc (.cells cs t')) X) pa ps :=
  slp_move (ex_block (w := w.alloc (.cells zs t)) (by (try show Ex _ _); repeat (first | (with_reducible exact ex_refl _) | (with_reducible assumption) | (with_reducible refine ex_drewL ?_) | (with_reducible refine ex_appR ?_ _) | (with_reducible refine ex_wx ?_ _) | (with_reducible refine ex_drew ?_) | (with_reducible refine ex_alloc ?_ _))) (heap_alloc_new w _)) hz (by simp [go_sem]) (fun g hg _ => heap_turn w _ _ X hg) h
theorem sld_turnG {w : World} {zs cs : Array Value} {t t' : TypeId} {X : More} {pa : Option Addr} {ps : List Dg} (hz : ∀ x, ¬ B x ∈ zs) (h : SlD (wx (w.alloc (.cells zs t)) X) pa ps) : SlD (wx (w.alloc (.cells cs t')) X) pa ps :=
  sld_move (ex_block (w := w.alloc (.cells zs t)) (by (try show Ex _ _); repeat (first | (with_reducible exact ex_refl _) | (with_reducible assumption) | (with_reducible refine ex_drewL ?_) | (with_reducible refine ex_appR ?_ _) | (with_reducible refine ex_wx ?_ _) | (with_reducible refine ex_drew ?_) | (with_reducible refine ex_alloc ?_ _))) (heap_alloc_new w _)) hz (by simp [go_sem]) (fun g hg _ => heap_turn w _ _ X hg) h
theorem cellsN_exS {w w' : World} {b o n : Nat} {cs : Array Value} (k : Ex w w') (hb : b < w.heap.size) (h : cellsN w b o n = some cs) : cellsN w' b o n = some cs := by
  obtain ⟨X, rfl⟩ := k
  rw [cellsN_congr fun j _ => wx_cell w X _ hb, h]
theorem q_world {Q : Exit → Act → World → Prop} {e : Exit} {a : Act} {w : World} (h : ∀ w8, w = w8 → Q e a w8) : Q e a w := h w rfl
theorem wD_blocks (w : World) (x : Dg) (lo hi : ByteArray) (op : Bool) (t f : Int) (pa qa : Option Addr) (L L2 pc qc : Nat) :
    (wD w x lo hi op t f pa qa L L2 pc qc).heap[w.heap.size]? = some (.cells (rowB 32 (dF x)) 26 (0, 0)) ∧ (wD w x lo hi op t f pa qa L L2 pc qc).heap[w.heap.size + 1]? = some (.cells #[.string lo, .string hi, .bool op] 55 (0, 0)) ∧
    (wD w x lo hi op t f pa qa L L2 pc qc).heap[w.heap.size + 1 + 1]? = some (.cells #[I t, I f, .slice pa L pc, .slice qa L2 qc] 65 (0, 0)) ∧ (wD w x lo hi op t f pa qa L L2 pc qc).heap.size = w.heap.size + 1 + 1 + 1 ∧ Ex w (wD w x lo hi op t f pa qa L L2 pc qc) := by
  have e1 : (w.alloc (.cells (rowB 32 (dF x)) 26)).heap.size = w.heap.size + 1 := by simp [go_sem]
  have e2 : ((w.alloc (.cells (rowB 32 (dF x)) 26)).alloc (.cells #[.string lo, .string hi, .bool op] 55)).heap.size = w.heap.size + 1 + 1 := by simp [go_sem]
  refine ⟨ex_block (w := w.alloc (.cells (rowB 32 (dF x)) 26)) (by (try show Ex _ _); repeat (first | (with_reducible exact ex_refl _) | (with_reducible assumption) | (with_reducible refine ex_drewL ?_) | (with_reducible refine ex_appR ?_ _) | (with_reducible refine ex_wx ?_ _) | (with_reducible refine ex_drew ?_) | (with_reducible refine ex_alloc ?_ _))) (heap_alloc_new _ _), ?_, ?_, by simp [go_sem], (by (try show Ex _ _); repeat (first | (with_reducible exact ex_refl _) | (with_reducible assumption) | (with_reducible refine ex_drewL ?_) | (with_reducible refine ex_appR ?_ _) | (with_reducible refine ex_wx ?_ _) | (with_reducible refine ex_drew ?_) | (with_reducible refine ex_alloc ?_ _)))⟩
  · have := ex_block (W := wD w x lo hi op t f pa qa L L2 pc qc) (by (try show Ex _ _); repeat (first | (with_reducible exact ex_refl _) | (with_reducible assumption) | (with_reducible refine ex_drewL ?_) | (with_reducible refine ex_appR ?_ _) | (with_reducible refine ex_wx ?_ _) | (with_reducible refine ex_drew ?_) | (with_reducible refine ex_alloc ?_ _))) (heap_alloc_new (w.alloc (.cells (rowB 32 (dF x)) 26)) (.cells #[.string lo, .string hi, .bool op] 55))
    rwa [e1] at this
  · have := heap_alloc_new ((w.alloc (.cells (rowB 32 (dF x)) 26)).alloc (.cells #[.string lo, .string hi, .bool op] 55)) (.cells #[I t, I f, .slice pa L pc, .slice qa L2 qc] 65)
    rwa [e2] at this
/-! ### Append to an empty row that was made -/
theorem wpApp0 {ops : Array Oper} {rest : List Oper} {o : Oper} {a : Act} {w : World} {Q : Exit → Act → World → Prop} (A : World) (s x : Operand) (hgd : o.guard = none)
    (ho : o.op = .call { callee := .builtin .append, args := #[s, x], argTypes := #[22, 22] })
    {u : World} {r : List Dg} {ad : Addr} {m c gu : Nat} (k : Ex (u.alloc (.cells #[] 26)) w) (hgs : a.eval s = .slice (some ⟨gu, 0, none⟩) 0 0) (hgu : u.heap.size = gu) (kA : Ex A w) (hAu : A.heap.size ≤ u.heap.size) (hx : a.eval x = .slice (some ad) m c) (hm : r.length = m) (hr : SlD w (some ad) r) (hlen : m ≤ 1000)
    (h : ∀ ya yc X, m ≤ yc → yc ≤ maxLen → SlD (wx A X) ya r → (∀ pa ps, SlP w pa ps → SlP (wx A X) pa ps) → wpList Tryd.prog ops Q rest (a.put o.dst (.slice ya m yc)) (wx A X)) : wpList Tryd.prog ops Q (o :: rest) a w := by
  have hs : a.eval s = .slice (some ⟨u.heap.size, 0, none⟩) 0 0 := by rw [hgu]; exact hgs
  have hown : OwnD w A.heap.size (.slice (some ⟨u.heap.size, 0, none⟩) 0 0) [] := ownd_empty k rfl hAu
  have hb := ex_block k (heap_alloc_new u _)
  have fin : ∀ v' w', OwnD w' A.heap.size v' r → w.grownBy w' (Value.slice (some ⟨u.heap.size, 0, none⟩) 0 0).ownBlock → wpList Tryd.prog ops Q rest (a.put o.dst v') w' := fun v' w' h1 h2 => by
    obtain ⟨ya, yc, rfl, y1, y2, _, y4⟩ := OwnD.slg h1
    obtain ⟨X, rfl⟩ := ex_of_below ((ex_below kA).grown h2 (ex_size kA) fun b hb => (hown.lt b hb).1)
    rw [hm] at y1 ⊢
    refine h ya yc X y1 y2 y4 fun pa ps hp => slp_move hb (by simp) h2.size (fun g hg hlt => h2.block g hlt fun e => hg ?_) hp
    simpa [Value.ownBlock] using e
  obtain ⟨i, hi, h1', h2', h3'⟩ := info_parts appId.hi
  rcases hr.out with rfl | ⟨g, off, hg, _, _⟩
  · subst hm
    refine wpList_append_own_at w hgd s x _ ho A.heap.size _ i _ _ _ appId.ht hi h1' h2' h3' appId.hzs appId.hsz _ _ _ hs hown ad 0 c [] hx rfl (fun j u hj => by simp at hj) (fun u hu => by cases hu) (by decide) (by decide) (Nat.le_trans hAu (by have := (Array.getElem?_eq_some_iff.1 hb).1; omega)) fun v' w' k1 k2 _ k3 => ?_
    exact fin v' w' k1 k2
  · cases hg
    exact wpAppAt s x hgd ho hown hs hx hm.symm hr (by simp; omega) (Nat.le_trans hAu (by have := (Array.getElem?_eq_some_iff.1 hb).1; omega)) fun v' w' k1 k2 k3 => fin v' w' (by rwa [List.nil_append] at k1) k2
theorem wpApp0N {ops : Array Oper} {rest : List Oper} {o : Oper} {a : Act} {w : World} {Q : Exit → Act → World → Prop} (A : World) (s x : Operand) (hgd : o.guard = none)
    (ho : o.op = .call { callee := .builtin .append, args := #[s, x], argTypes := #[22, 22] })
    {u : World} {gu : Nat} (k : Ex (u.alloc (.cells #[] 26)) w) (hgs : a.eval s = .slice (some ⟨gu, 0, none⟩) 0 0) (hgu : u.heap.size = gu) (kA : Ex A w) (hx : a.eval x = .slice none 0 0)
    (h : ∀ ya yc X, 0 ≤ yc → yc ≤ maxLen → SlD (wx A X) ya [] → (∀ pa ps, SlP w pa ps → SlP (wx A X) pa ps) → wpList Tryd.prog ops Q rest (a.put o.dst (.slice ya 0 yc)) (wx A X)) : wpList Tryd.prog ops Q (o :: rest) a w := by
  have hs : a.eval s = .slice (some ⟨u.heap.size, 0, none⟩) 0 0 := by rw [hgu]; exact hgs
  obtain ⟨X, rfl⟩ := kA
  refine wpList_plain hgd fun K hK => ?_
  have hr : (Builtin.append_ #[22, 22] o.type #[.slice (some ⟨u.heap.size, 0, none⟩) 0 0, .slice none 0 0]).run Tryd.prog (wx A X) = .ok (.slice (some ⟨u.heap.size, 0, none⟩) 0 0) (wx A X) := by
    have hi : (Tryd.prog.info? 26).map (·.size) = some 32 := by kernel_rfl
    obtain ⟨i, hi1, hi2⟩ := Option.map_eq_some_iff.1 hi
    simp [Builtin.append_, run_underlying Tryd.underlying22, Go.sizeOf, typeInfo, hi1, hi2, go_sem]
  unfold Oper.wp execOp
  simp only [ho, resolve, invoke, builtin, Sem.run_bind, Sem.run_pure, Result.andThen_ok, List.map_toArray, List.map_cons, List.map_nil, hs, hx, hr]
  exact hK _ _ (h _ 0 X (by omega) (by decide) (SlD.nil _ _) fun pa ps hp => hp)
set_option maxHeartbeats 2000000 in
theorem sv_over (OR2 : Bool) (root : Dg) (lo hi : ByteArray) (op : Bool) (t f : Int) (pa qa : Option Addr) (L L2 pc qc : Nat) (w : World) (HW : Hid (∀ w', Ex w w' → Calls Tryd.prog 34 #[] w' (Post w' (.bool true)))) (HO : Hid (∀ w', Ex w w' → Calls Tryd.prog 35 #[.slice pa L pc] w' (Post w' (.bool true)))) (HOR : Hid (∀ w', Calls Tryd.prog 36 #[.agg #[.string lo, .string hi, .bool op]] w' (Post w' (.bool OR2)))) :
    Calls Tryd.prog 10 #[.agg (rowB 32 (dF root)), .agg #[.string lo, .string hi, .bool op], .agg #[I t, I f, .slice pa L pc, .slice qa L2 qc]] w (Post w (.bool true)) := by
  go_enter Tryd.func10, Tryd.ntmps10
  go_wp2_with (first | (go_at_call 34; (with_reducible refine (HW.out _ (by (try show Ex _ _); repeat (first | (with_reducible exact ex_refl _) | (with_reducible assumption) | (with_reducible refine ex_drewL ?_) | (with_reducible refine ex_appR ?_ _) | (with_reducible refine ex_wx ?_ _) | (with_reducible refine ex_drew ?_) | (with_reducible refine ex_alloc ?_ _)))).mono ?_); rintro e w2 ⟨rfl, X, rfl⟩) | (go_at_call 35; (with_reducible refine (HO.out _ (by (try show Ex _ _); repeat (first | (with_reducible exact ex_refl _) | (with_reducible assumption) | (with_reducible refine ex_drewL ?_) | (with_reducible refine ex_appR ?_ _) | (with_reducible refine ex_wx ?_ _) | (with_reducible refine ex_drew ?_) | (with_reducible refine ex_alloc ?_ _)))).mono ?_); rintro e w2 ⟨rfl, X, rfl⟩) | (go_at_call 36; (with_reducible refine (HOR.out _).mono ?_); rintro e w2 ⟨rfl, X, rfl⟩))
  go_ret
  exact post_mk rfl (by (try show Ex _ _); repeat (first | (with_reducible exact ex_refl _) | (with_reducible assumption) | (with_reducible refine ex_drewL ?_) | (with_reducible refine ex_appR ?_ _) | (with_reducible refine ex_wx ?_ _) | (with_reducible refine ex_drew ?_) | (with_reducible refine ex_alloc ?_ _)))
set_option maxHeartbeats 2000000 in
theorem sv_overR (root : Dg) (lo hi : ByteArray) (op : Bool) (t f : Int) (pa qa : Option Addr) (L L2 pc qc : Nat) (w : World) (HW : Hid (∀ w', Ex w w' → Calls Tryd.prog 34 #[] w' (Post w' (.bool true)))) (HO : Hid (∀ w', Ex w w' → Calls Tryd.prog 35 #[.slice pa L pc] w' (Post w' (.bool false)))) (HOR : Hid (∀ w', Calls Tryd.prog 36 #[.agg #[.string lo, .string hi, .bool op]] w' (Post w' (.bool true)))) :
    Calls Tryd.prog 10 #[.agg (rowB 32 (dF root)), .agg #[.string lo, .string hi, .bool op], .agg #[I t, I f, .slice pa L pc, .slice qa L2 qc]] w (Post w (.bool true)) := by
  go_enter Tryd.func10, Tryd.ntmps10
  go_wp2_with (first | (go_at_call 34; (with_reducible refine (HW.out _ (by (try show Ex _ _); repeat (first | (with_reducible exact ex_refl _) | (with_reducible assumption) | (with_reducible refine ex_drewL ?_) | (with_reducible refine ex_appR ?_ _) | (with_reducible refine ex_wx ?_ _) | (with_reducible refine ex_drew ?_) | (with_reducible refine ex_alloc ?_ _)))).mono ?_); rintro e w2 ⟨rfl, X, rfl⟩) | (go_at_call 35; (with_reducible refine (HO.out _ (by (try show Ex _ _); repeat (first | (with_reducible exact ex_refl _) | (with_reducible assumption) | (with_reducible refine ex_drewL ?_) | (with_reducible refine ex_appR ?_ _) | (with_reducible refine ex_wx ?_ _) | (with_reducible refine ex_drew ?_) | (with_reducible refine ex_alloc ?_ _)))).mono ?_); rintro e w2 ⟨rfl, X, rfl⟩) | (go_at_call 36; (with_reducible refine (HOR.out _).mono ?_); rintro e w2 ⟨rfl, X, rfl⟩))
  go_ret
  exact post_mk rfl (by (try show Ex _ _); repeat (first | (with_reducible exact ex_refl _) | (with_reducible assumption) | (with_reducible refine ex_drewL ?_) | (with_reducible refine ex_appR ?_ _) | (with_reducible refine ex_wx ?_ _) | (with_reducible refine ex_drew ?_) | (with_reducible refine ex_alloc ?_ _)))
set_option maxHeartbeats 2000000 in
theorem sv_long (root : Dg) (lo hi : ByteArray) (op : Bool) (t f : Int) (pa qa : Option Addr) (L L2 pc qc : Nat) (w : World) (HW : Hid (∀ w', Ex w w' → Calls Tryd.prog 34 #[] w' (Post w' (.bool true)))) (HO : Hid (∀ w', Ex w w' → Calls Tryd.prog 35 #[.slice pa L pc] w' (Post w' (.bool false)))) (HOR : Hid (∀ w', Calls Tryd.prog 36 #[.agg #[.string lo, .string hi, .bool op]] w' (Post w' (.bool false)))) (h : 300 < L2) :
    Calls Tryd.prog 10 #[.agg (rowB 32 (dF root)), .agg #[.string lo, .string hi, .bool op], .agg #[I t, I f, .slice pa L pc, .slice qa L2 qc]] w (Post w (.bool true)) := by
  have c1 := decide_eq_true (show (300 : Int) < L2 by omega)
  have c2 := decide_eq_true h
  go_enter Tryd.func10, Tryd.ntmps10
  go_wp2_with (first | (go_at_call 34; (with_reducible refine (HW.out _ (by (try show Ex _ _); repeat (first | (with_reducible exact ex_refl _) | (with_reducible assumption) | (with_reducible refine ex_drewL ?_) | (with_reducible refine ex_appR ?_ _) | (with_reducible refine ex_wx ?_ _) | (with_reducible refine ex_drew ?_) | (with_reducible refine ex_alloc ?_ _)))).mono ?_); rintro e w2 ⟨rfl, X, rfl⟩) | (go_at_call 35; (with_reducible refine (HO.out _ (by (try show Ex _ _); repeat (first | (with_reducible exact ex_refl _) | (with_reducible assumption) | (with_reducible refine ex_drewL ?_) | (with_reducible refine ex_appR ?_ _) | (with_reducible refine ex_wx ?_ _) | (with_reducible refine ex_drew ?_) | (with_reducible refine ex_alloc ?_ _)))).mono ?_); rintro e w2 ⟨rfl, X, rfl⟩) | (go_at_call 36; (with_reducible refine (HOR.out _).mono ?_); rintro e w2 ⟨rfl, X, rfl⟩))
  go_ret
  exact post_mk rfl (by (try show Ex _ _); repeat (first | (with_reducible exact ex_refl _) | (with_reducible assumption) | (with_reducible refine ex_drewL ?_) | (with_reducible refine ex_appR ?_ _) | (with_reducible refine ex_wx ?_ _) | (with_reducible refine ex_drew ?_) | (with_reducible refine ex_alloc ?_ _)))
set_option maxHeartbeats 8000000 in
theorem sv_sn (root : Dg) (lo hi : ByteArray) (op : Bool) (t f : Int) (ps : List Pr) (qs : List Dg) (pa : Option Addr) (ad : Addr) (L L2 pc qc : Nat) (w : World) (h300 : L2 ≤ 300) (hqc : L2 ≤ qc) (hqm : qc ≤ maxLen) (HL2 : Hid (qs.length = L2)) (HQS : Hid (∀ w', Ex w w' → SlD w' (some ad) qs))
    (HW : Hid (∀ w', Ex w w' → Calls Tryd.prog 34 #[] w' (Post w' (.bool true)))) (HO : Hid (∀ w', Ex w w' → Calls Tryd.prog 35 #[.slice pa L pc] w' (Post w' (.bool false)))) (HOR : Hid (∀ w', Calls Tryd.prog 36 #[.agg #[.string lo, .string hi, .bool op]] w' (Post w' (.bool false))))
    (HCp : Hid (∀ w', Ex w w' → Calls Tryd.prog 38 #[.slice pa L pc] w' (PostSP L ps w')))
    (d : Dg) (HTp : Hid (∀ xa xc ya yc w', Ex w w' → L ≤ xc → xc ≤ maxLen → L2 ≤ yc → yc ≤ maxLen → SlP w' xa ps → SlD w' ya qs → Calls Tryd.prog 47 #[.agg #[I t, I f, .slice xa L xc, .slice ya L2 yc]] w' (Post w' (.tuple #[.agg (rowB 32 (fun _ => 0)), I 251]))))
    (HTd : Hid (∀ w', Ex w w' → Calls Tryd.prog 48 #[.agg #[I t, I f, .slice pa L pc, .slice (some ad) L2 qc]] w' (PostTdN w')))
    (V : Dg → Option (List Pr)) (HVe : Hid (∀ d xa xc ya yc w', Ex w w' → L ≤ xc → xc ≤ maxLen → L2 ≤ yc → yc ≤ maxLen → SlP w' xa ps → SlD w' ya qs → Calls Tryd.prog 49 #[.agg (rowB 32 (dF d)), .agg #[.string lo, .string hi, .bool op], .agg #[I t, I f, .slice xa L xc, .slice ya L2 yc]] w' (PostV w' ((V d).getD []) (errV (V d)))))
    (HVd : Hid (∀ d w', Ex w w' → Calls Tryd.prog 50 #[.agg (rowB 32 (dF d)), .agg #[.string lo, .string hi, .bool op], .agg #[I t, I f, .slice pa L pc, .slice (some ad) L2 qc]] w' (PostVd (V d) w')))
    (HSm : Hid (∀ (l : List Pr) (a b : Option Addr) (c e : Nat) w', l.length ≤ c → c ≤ maxLen → l.length ≤ e → e ≤ maxLen → SlP w' a l → SlP w' b l → Calls Tryd.prog 51 #[.slice a l.length c, .slice b l.length e] w' (Post w' (.bool true)))) :
    Calls Tryd.prog 10 #[.agg (rowB 32 (dF root)), .agg #[.string lo, .string hi, .bool op], .agg #[I t, I f, .slice pa L pc, .slice (some ad) L2 qc]] w (Post w (.bool true)) := by
  have c1 := decide_eq_false (show ¬ (300 : Int) < L2 by omega)
  have c2 := decide_eq_false (show ¬ 300 < L2 by omega)
  have hE := eqF_same (fun _ => 0) 32
  go_enter Tryd.func10, Tryd.ntmps10
  go_wp2_with (first | (go_at_call 34; (with_reducible refine (HW.out _ (by (try show Ex _ _); repeat (first | (with_reducible exact ex_refl _) | (with_reducible assumption) | (with_reducible refine ex_drewL ?_) | (with_reducible refine ex_appR ?_ _) | (with_reducible refine ex_wx ?_ _) | (with_reducible refine ex_drew ?_) | (with_reducible refine ex_alloc ?_ _)))).mono ?_); rintro e w2 ⟨rfl, Xa, rfl⟩) | (go_at_call 35; (with_reducible refine (HO.out _ (by (try show Ex _ _); repeat (first | (with_reducible exact ex_refl _) | (with_reducible assumption) | (with_reducible refine ex_drewL ?_) | (with_reducible refine ex_appR ?_ _) | (with_reducible refine ex_wx ?_ _) | (with_reducible refine ex_drew ?_) | (with_reducible refine ex_alloc ?_ _)))).mono ?_); rintro e w2 ⟨rfl, Xb, rfl⟩) | (go_at_call 36; (with_reducible refine (HOR.out _).mono ?_); rintro e w2 ⟨rfl, Xc, rfl⟩))
  obtain ⟨A0, hA0⟩ : ∃ A0, wD w root lo hi op t f pa (some ad) L L2 pc qc = A0 := ⟨_, rfl⟩
  obtain ⟨U5, hU⟩ : ∃ U5, wx (wD w root lo hi op t f pa (some ad) L L2 pc qc) ((Xa.app Xb).app Xc) = U5 := ⟨_, rfl⟩
  have hb7 : w.heap.size + 1 + 1 + 1 + (Xa.blocks.length + Xb.blocks.length + Xc.blocks.length) = U5.heap.size := by rw [← hU]; simp [go_sem]
  obtain ⟨B0, B1, B2, sA, KwA⟩ := wD_blocks w root lo hi op t f pa (some ad) L L2 pc qc
  have K05 : Ex A0 U5 := by rw [← hU, ← hA0]; exact (by (try show Ex _ _); repeat (first | (with_reducible exact ex_refl _) | (with_reducible assumption) | (with_reducible refine ex_drewL ?_) | (with_reducible refine ex_appR ?_ _) | (with_reducible refine ex_wx ?_ _) | (with_reducible refine ex_drew ?_) | (with_reducible refine ex_alloc ?_ _)))
  refine wp_world fun W5 h5 => ?_
  have h6 : W5 = U5.alloc (.cells #[I t, I f, .slice pa L pc, .slice (some ad) L2 qc] 65) := by rw [← h5, ← hU]
  subst h6
  rw [hA0] at B0 B1 B2 sA KwA
  rw [hb7]
  have K5 : Ex w U5 := ex_trans KwA K05
  have hAU : A0.heap.size ≤ U5.heap.size := ex_size K05
  clear h5 hA0 hb7 hU HW HO HOR
  have q2 := (block_cell (o := 2) B2 rfl).1
  have q3 := (block_cell (o := 3) B2 rfl).1
  have q4 : w.heap.size + 1 + 1 < A0.heap.size := by omega
  have HB0 := Lib.hid B0
  have HB1 := Lib.hid B1
  have HB2 := Lib.hid B2
  clear B0 B1 B2
  refine wp_region_fork (A0) (.look 0 (.look 1 (.look 4 (.look 5 (.fork 2 (.look 7 (.eff 3 (.eff 6 (.eff 8 (.look 9 (.eff 10 .done)))))) 3 (.eff 2 (.look 7 (.eff 6 (.eff 8 (.look 9 (.eff 10 .done))))))))))) (by (try show Ex _ _); repeat (first | (with_reducible exact ex_refl _) | (with_reducible assumption) | (with_reducible refine ex_drewL ?_) | (with_reducible refine ex_appR ?_ _) | (with_reducible refine ex_wx ?_ _) | (with_reducible refine ex_drew ?_) | (with_reducible refine ex_alloc ?_ _))) (by kernel_rfl) (by kernel_rfl) (fun _ _ d _ _ h => by cases d <;> exact h) ?_
  simp only [Fk.ops, nth]
  repeat (first | ((with_reducible refine wpFork_look ?_); go_big_quiet_step (fail); (try (with_reducible refine wpQuiet_nil ?_))) | (with_reducible refine wpFork_eff ?_) | ((with_reducible refine effT_F ?_ ?_); (focus rfl); go_simp) | ((with_reducible refine effT_T ?_ ?_); (focus rfl); (try dsimp only); go_wp2_with (first | (go_at_call 38; (with_reducible refine (HCp.out _ (by (try show Ex _ _); repeat (first | (with_reducible exact ex_refl _) | (with_reducible assumption) | (with_reducible refine ex_drewL ?_) | (with_reducible refine ex_appR ?_ _) | (with_reducible refine ex_wx ?_ _) | (with_reducible refine ex_drew ?_) | (with_reducible refine ex_alloc ?_ _)))).mono ?_); rintro e w2 ⟨xa, xc, rfl, ⟨x1, x2, _, x4⟩, Xd, rfl⟩; (try simp only [wx_wx, wx_drew] at x4); replace x4 := Lib.hid x4) | (at_builtin; refine wpApp0 (U5.alloc (.cells #[I t, I f, .slice pa L pc, .slice (some ad) L2 qc] 65)) _ _ rfl rfl (by (try show Ex _ _); repeat (first | (with_reducible exact ex_refl _) | (with_reducible assumption) | (with_reducible refine ex_drewL ?_) | (with_reducible refine ex_appR ?_ _) | (with_reducible refine ex_wx ?_ _) | (with_reducible refine ex_drew ?_) | (with_reducible refine ex_alloc ?_ _))) rfl (by simp [go_sem]) (by (try show Ex _ _); repeat (first | (with_reducible exact ex_refl _) | (with_reducible assumption) | (with_reducible refine ex_drewL ?_) | (with_reducible refine ex_appR ?_ _) | (with_reducible refine ex_wx ?_ _) | (with_reducible refine ex_drew ?_) | (with_reducible refine ex_alloc ?_ _))) (by simp [go_sem]) rfl HL2.out (HQS.out _ (by (try show Ex _ _); repeat (first | (with_reducible exact ex_refl _) | (with_reducible assumption) | (with_reducible refine ex_drewL ?_) | (with_reducible refine ex_appR ?_ _) | (with_reducible refine ex_wx ?_ _) | (with_reducible refine ex_drew ?_) | (with_reducible refine ex_alloc ?_ _)))) (by omega) (fun ya yc Xf y1 y2 y4 hmv => ?_); have x5 := Lib.hid (hmv _ _ (x4.out.ex (by (try show Ex _ _); repeat (first | (with_reducible exact ex_refl _) | (with_reducible assumption) | (with_reducible refine ex_drewL ?_) | (with_reducible refine ex_appR ?_ _) | (with_reducible refine ex_wx ?_ _) | (with_reducible refine ex_drew ?_) | (with_reducible refine ex_alloc ?_ _))))); replace y4 := Lib.hid y4; clear hmv x4)); refine mixQ_mk (by (try show Ex _ _); repeat (first | (with_reducible exact ex_refl _) | (with_reducible assumption) | (with_reducible refine ex_drewL ?_) | (with_reducible refine ex_appR ?_ _) | (with_reducible refine ex_wx ?_ _) | (with_reducible refine ex_drew ?_) | (with_reducible refine ex_alloc ?_ _))) ?_))
  all_goals (try (with_reducible refine wpFork_fork ?_ ?_))
  all_goals repeat (first | ((with_reducible refine wpFork_look ?_); go_big_quiet_step (fail); (try (with_reducible refine wpQuiet_nil ?_))) | (with_reducible refine wpFork_eff ?_) | ((with_reducible refine effT_F ?_ ?_); (focus rfl); go_simp) | ((with_reducible refine effT_T ?_ ?_); (focus rfl); (try dsimp only); go_wp2_with (first | (go_at_call 38; (with_reducible refine (HCp.out _ (by (try show Ex _ _); repeat (first | (with_reducible exact ex_refl _) | (with_reducible assumption) | (with_reducible refine ex_drewL ?_) | (with_reducible refine ex_appR ?_ _) | (with_reducible refine ex_wx ?_ _) | (with_reducible refine ex_drew ?_) | (with_reducible refine ex_alloc ?_ _)))).mono ?_); rintro e w2 ⟨xa, xc, rfl, ⟨x1, x2, _, x4⟩, Xd, rfl⟩; (try simp only [wx_wx, wx_drew] at x4); replace x4 := Lib.hid x4) | (at_builtin; refine wpApp0 (U5.alloc (.cells #[I t, I f, .slice pa L pc, .slice (some ad) L2 qc] 65)) _ _ rfl rfl (by (try show Ex _ _); repeat (first | (with_reducible exact ex_refl _) | (with_reducible assumption) | (with_reducible refine ex_drewL ?_) | (with_reducible refine ex_appR ?_ _) | (with_reducible refine ex_wx ?_ _) | (with_reducible refine ex_drew ?_) | (with_reducible refine ex_alloc ?_ _))) rfl (by simp [go_sem]) (by (try show Ex _ _); repeat (first | (with_reducible exact ex_refl _) | (with_reducible assumption) | (with_reducible refine ex_drewL ?_) | (with_reducible refine ex_appR ?_ _) | (with_reducible refine ex_wx ?_ _) | (with_reducible refine ex_drew ?_) | (with_reducible refine ex_alloc ?_ _))) (by simp [go_sem]) rfl HL2.out (HQS.out _ (by (try show Ex _ _); repeat (first | (with_reducible exact ex_refl _) | (with_reducible assumption) | (with_reducible refine ex_drewL ?_) | (with_reducible refine ex_appR ?_ _) | (with_reducible refine ex_wx ?_ _) | (with_reducible refine ex_drew ?_) | (with_reducible refine ex_alloc ?_ _)))) (by omega) (fun ya yc Xf y1 y2 y4 hmv => ?_); have x5 := Lib.hid (hmv _ _ (x4.out.ex (by (try show Ex _ _); repeat (first | (with_reducible exact ex_refl _) | (with_reducible assumption) | (with_reducible refine ex_drewL ?_) | (with_reducible refine ex_appR ?_ _) | (with_reducible refine ex_wx ?_ _) | (with_reducible refine ex_drew ?_) | (with_reducible refine ex_alloc ?_ _))))); replace y4 := Lib.hid y4; clear hmv x4)); refine mixQ_mk (by (try show Ex _ _); repeat (first | (with_reducible exact ex_refl _) | (with_reducible assumption) | (with_reducible refine ex_drewL ?_) | (with_reducible refine ex_appR ?_ _) | (with_reducible refine ex_wx ?_ _) | (with_reducible refine ex_drew ?_) | (with_reducible refine ex_alloc ?_ _))) ?_))
  all_goals (with_reducible refine wpFork_nil ?_)
  all_goals
    refine q_world fun WF hF => ?_
    obtain ⟨b7, hb7⟩ : ∃ b7, U5.heap.size = b7 := ⟨_, rfl⟩
    have KF : Ex A0 WF := by rw [← hF]; exact (by (try show Ex _ _); repeat (first | (with_reducible exact ex_refl _) | (with_reducible assumption) | (with_reducible refine ex_drewL ?_) | (with_reducible refine ex_appR ?_ _) | (with_reducible refine ex_wx ?_ _) | (with_reducible refine ex_drew ?_) | (with_reducible refine ex_alloc ?_ _)))
    have B7 : WF.heap[b7]? = some (.cells #[I t, I f, .slice xa L xc, .slice ya L2 yc] 65 (0, 0)) := by
      rw [← hF, ← hb7]
      exact ex_block (w := U5.alloc (.cells #[I t, I f, .slice xa L xc, .slice ya L2 yc] 65)) (by (try show Ex _ _); repeat (first | (with_reducible exact ex_refl _) | (with_reducible assumption) | (with_reducible refine ex_drewL ?_) | (with_reducible refine ex_appR ?_ _) | (with_reducible refine ex_wx ?_ _) | (with_reducible refine ex_drew ?_) | (with_reducible refine ex_alloc ?_ _))) (heap_alloc_new _ _)
    have xF : Hid (SlP WF xa ps) := Lib.hid (by rw [← hF]; exact slp_turnG (by intro z hz; simp at hz) x5.out)
    have yF : Hid (SlD WF ya qs) := Lib.hid (by rw [← hF]; exact sld_turnG (by intro z hz; simp at hz) y4.out)
    rw [hb7]
    clear hF x5 y4 hb7 K05 K5 hAU HCp q2 q3
    have KwF : Ex w WF := ex_trans KwA KF
    obtain ⟨m1, _, m2⟩ := block_cells (n := 4) B7 rfl
    obtain ⟨m3, _, m4⟩ := block_cells (n := 4) (ex_block KF HB2.out) rfl
    obtain ⟨m5, _, m6⟩ := block_cells (n := 32) (ex_block KF HB0.out) (by simp)
    have B1F := ex_block KF HB1.out
    have m7 := (block_cell (o := 0) B1F rfl).1
    have m8 := (block_cell (o := 1) B1F rfl).1
    have m9 := (block_cell (o := 2) B1F rfl).1
    have HB7 := Lib.hid B7
    clear B7 B1F
    go_wp2_with (first | (go_at_call 47; (with_reducible refine (HTp.out _ _ _ _ _ (by (try show Ex _ _); repeat (first | (with_reducible exact ex_refl _) | (with_reducible assumption) | (with_reducible refine ex_drewL ?_) | (with_reducible refine ex_appR ?_ _) | (with_reducible refine ex_wx ?_ _) | (with_reducible refine ex_drew ?_) | (with_reducible refine ex_alloc ?_ _))) x1 x2 y1 y2 (xF.out.ex (by (try show Ex _ _); repeat (first | (with_reducible exact ex_refl _) | (with_reducible assumption) | (with_reducible refine ex_drewL ?_) | (with_reducible refine ex_appR ?_ _) | (with_reducible refine ex_wx ?_ _) | (with_reducible refine ex_drew ?_) | (with_reducible refine ex_alloc ?_ _)))) (yF.out.ex (by (try show Ex _ _); repeat (first | (with_reducible exact ex_refl _) | (with_reducible assumption) | (with_reducible refine ex_drewL ?_) | (with_reducible refine ex_appR ?_ _) | (with_reducible refine ex_wx ?_ _) | (with_reducible refine ex_drew ?_) | (with_reducible refine ex_alloc ?_ _))))).mono ?_); rintro e w2 ⟨rfl, Xd, rfl⟩) | (go_at_call 48; (with_reducible refine (HTd.out _ (by (try show Ex _ _); repeat (first | (with_reducible exact ex_refl _) | (with_reducible assumption) | (with_reducible refine ex_drewL ?_) | (with_reducible refine ex_appR ?_ _) | (with_reducible refine ex_wx ?_ _) | (with_reducible refine ex_drew ?_) | (with_reducible refine ex_alloc ?_ _)))).mono ?_); rintro e w2 ⟨d, rfl, Xe, rfl⟩))
    refine wp_world fun W1 h1 => ?_
    obtain ⟨b8, hb8⟩ : ∃ b8, WF.heap.size + Xd.blocks.length + 1 + Xe.blocks.length + 1 = b8 := ⟨_, rfl⟩
    have K1 : Ex WF W1 := by rw [← h1]; exact (by (try show Ex _ _); repeat (first | (with_reducible exact ex_refl _) | (with_reducible assumption) | (with_reducible refine ex_drewL ?_) | (with_reducible refine ex_appR ?_ _) | (with_reducible refine ex_wx ?_ _) | (with_reducible refine ex_drew ?_) | (with_reducible refine ex_alloc ?_ _)))
    obtain ⟨g1, g2, g3⟩ := c2_at (a := root) (b := d) (W := W1) (g := b8) (by rw [← h1]; exact (by (try show Ex _ _); repeat (first | (with_reducible exact ex_refl _) | (with_reducible assumption) | (with_reducible refine ex_drewL ?_) | (with_reducible refine ex_appR ?_ _) | (with_reducible refine ex_wx ?_ _) | (with_reducible refine ex_drew ?_) | (with_reducible refine ex_alloc ?_ _)))) (by rw [← hb8]; simp [go_sem])
    rw [hb8]
    clear h1 hb8 m1 m3 m5 m7 m8 m9 m2 m4 m6
    have HC : Hid (∀ k, k < 2 → ∃ dk, cellsN W1 b8 (k * 32) 32 = some (rowB 32 (dF dk))) := Lib.hid fun k hk => by
      rcases Nat.lt_or_ge k 1 with h | h
      · obtain rfl : k = 0 := by omega
        exact ⟨root, g1⟩
      · obtain rfl : k = 1 := by omega
        exact ⟨d, g2⟩
    clear g1 g2
    go_loopw [82] (fun i wr => ∃ k : Nat, k ≤ 2 ∧ i = I k ∧ Ex W1 wr) (fun i _ => 2 - (intOf i).toNat)
    case atStart => exact ⟨0, by omega, rfl, ex_refl _⟩
    case round =>
      obtain ⟨k, hk, rfl, kr⟩ := hrel
      have kFr : Ex WF wr := ex_trans K1 kr
      have kwr : Ex w wr := ex_trans KwF kFr
      have kAr : Ex A0 wr := ex_trans KF kFr
      by_cases hlt : k < 2
      · obtain ⟨dk, hdk⟩ := HC.out k hlt
        have n0 := cellsN_exS kr g3 hdk
        have n1 : b8 < wr.heap.size := Nat.lt_of_lt_of_le g3 (ex_size kr)
        obtain ⟨m1, _, m2⟩ := block_cells (n := 4) (ex_block kFr HB7.out) rfl
        obtain ⟨m3, _, m4⟩ := block_cells (n := 4) (ex_block kAr HB2.out) rfl
        have B1r := ex_block kAr HB1.out
        have m6 : w.heap.size + 1 < wr.heap.size := (Array.getElem?_eq_some_iff.1 B1r).1
        have m7 := (block_cell (o := 0) B1r rfl).1
        have m8 := (block_cell (o := 1) B1r rfl).1
        have m9 := (block_cell (o := 2) B1r rfl).1
        have HE := Lib.hid (HVe.out dk)
        have HD := Lib.hid (HVd.out dk)
        unfold PostV at HE
        unfold PostVd at HD
        clear B1r hdk
        cases hV : V dk with
        | none =>
          rw [hV] at HE HD
          simp only [Option.getD_none, errV, Option.isSome_none, Bool.false_eq_true, if_false] at HE HD
          have HS0 := Lib.hid (HSm.out [])
          simp only [List.length_nil] at HS0
          go_wp2_with (first | (go_at_call 49; (with_reducible refine (HE.out _ _ _ _ _ (by (try show Ex _ _); repeat (first | (with_reducible exact ex_refl _) | (with_reducible assumption) | (with_reducible refine ex_drewL ?_) | (with_reducible refine ex_appR ?_ _) | (with_reducible refine ex_wx ?_ _) | (with_reducible refine ex_drew ?_) | (with_reducible refine ex_alloc ?_ _))) x1 x2 y1 y2 (xF.out.ex (by (try show Ex _ _); repeat (first | (with_reducible exact ex_refl _) | (with_reducible assumption) | (with_reducible refine ex_drewL ?_) | (with_reducible refine ex_appR ?_ _) | (with_reducible refine ex_wx ?_ _) | (with_reducible refine ex_drew ?_) | (with_reducible refine ex_alloc ?_ _)))) (yF.out.ex (by (try show Ex _ _); repeat (first | (with_reducible exact ex_refl _) | (with_reducible assumption) | (with_reducible refine ex_drewL ?_) | (with_reducible refine ex_appR ?_ _) | (with_reducible refine ex_wx ?_ _) | (with_reducible refine ex_drew ?_) | (with_reducible refine ex_alloc ?_ _))))).mono ?_); rintro e w2 ⟨v1, rfl, hv1, X1, rfl⟩; obtain ⟨va, vc, rfl, k1, k2, _, k4⟩ := hv1.slg; rw [List.length_nil]; (try simp only [wx_wx, wx_drew] at k4); replace k4 := Lib.hid k4; clear hv1) | (go_at_call 50; (with_reducible refine (HD.out _ (by (try show Ex _ _); repeat (first | (with_reducible exact ex_refl _) | (with_reducible assumption) | (with_reducible refine ex_drewL ?_) | (with_reducible refine ex_appR ?_ _) | (with_reducible refine ex_wx ?_ _) | (with_reducible refine ex_drew ?_) | (with_reducible refine ex_alloc ?_ _)))).mono ?_); rintro e w2 ⟨v2, rfl, hv2, X2, rfl⟩; obtain ⟨vb, vd, rfl, j1, j2, _, j4⟩ := hv2.slg; rw [List.length_nil]; (try simp only [wx_wx, wx_drew] at j4); replace j4 := Lib.hid j4; clear hv2) | (go_at_call 51; (with_reducible refine (HS0.out _ _ _ _ _ (Nat.zero_le _) k2 (Nat.zero_le _) j2 (k4.out.ex (by (try show Ex _ _); repeat (first | (with_reducible exact ex_refl _) | (with_reducible assumption) | (with_reducible refine ex_drewL ?_) | (with_reducible refine ex_appR ?_ _) | (with_reducible refine ex_wx ?_ _) | (with_reducible refine ex_drew ?_) | (with_reducible refine ex_alloc ?_ _)))) (j4.out.ex (by (try show Ex _ _); repeat (first | (with_reducible exact ex_refl _) | (with_reducible assumption) | (with_reducible refine ex_drewL ?_) | (with_reducible refine ex_appR ?_ _) | (with_reducible refine ex_wx ?_ _) | (with_reducible refine ex_drew ?_) | (with_reducible refine ex_alloc ?_ _))))).mono ?_); rintro e w2 ⟨rfl, X3, rfl⟩))
          refine ⟨⟨k + 1, by omega, by go_num, (by (try show Ex _ _); repeat (first | (with_reducible exact ex_refl _) | (with_reducible assumption) | (with_reducible refine ex_drewL ?_) | (with_reducible refine ex_appR ?_ _) | (with_reducible refine ex_wx ?_ _) | (with_reducible refine ex_drew ?_) | (with_reducible refine ex_alloc ?_ _)))⟩, by simp [intOf]; omega⟩
        | some l =>
          rw [hV] at HE HD
          simp only [Option.getD_some, errV, Option.isSome_some, if_true] at HE HD
          go_wp2_with (first | (go_at_call 49; (with_reducible refine (HE.out _ _ _ _ _ (by (try show Ex _ _); repeat (first | (with_reducible exact ex_refl _) | (with_reducible assumption) | (with_reducible refine ex_drewL ?_) | (with_reducible refine ex_appR ?_ _) | (with_reducible refine ex_wx ?_ _) | (with_reducible refine ex_drew ?_) | (with_reducible refine ex_alloc ?_ _))) x1 x2 y1 y2 (xF.out.ex (by (try show Ex _ _); repeat (first | (with_reducible exact ex_refl _) | (with_reducible assumption) | (with_reducible refine ex_drewL ?_) | (with_reducible refine ex_appR ?_ _) | (with_reducible refine ex_wx ?_ _) | (with_reducible refine ex_drew ?_) | (with_reducible refine ex_alloc ?_ _)))) (yF.out.ex (by (try show Ex _ _); repeat (first | (with_reducible exact ex_refl _) | (with_reducible assumption) | (with_reducible refine ex_drewL ?_) | (with_reducible refine ex_appR ?_ _) | (with_reducible refine ex_wx ?_ _) | (with_reducible refine ex_drew ?_) | (with_reducible refine ex_alloc ?_ _))))).mono ?_); rintro e w2 ⟨v1, rfl, hv1, X1, rfl⟩; obtain ⟨va, vc, rfl, k1, k2, _, k4⟩ := hv1.slg; (try simp only [wx_wx, wx_drew] at k4); replace k4 := Lib.hid k4; clear hv1) | (go_at_call 50; (with_reducible refine (HD.out _ (by (try show Ex _ _); repeat (first | (with_reducible exact ex_refl _) | (with_reducible assumption) | (with_reducible refine ex_drewL ?_) | (with_reducible refine ex_appR ?_ _) | (with_reducible refine ex_wx ?_ _) | (with_reducible refine ex_drew ?_) | (with_reducible refine ex_alloc ?_ _)))).mono ?_); rintro e w2 ⟨v2, rfl, hv2, X2, rfl⟩; obtain ⟨vb, vd, rfl, j1, j2, _, j4⟩ := hv2.slg; (try simp only [wx_wx, wx_drew] at j4); replace j4 := Lib.hid j4; clear hv2) | (go_at_call 51; (with_reducible refine (HSm.out _ _ _ _ _ _ k1 k2 j1 j2 (k4.out.ex (by (try show Ex _ _); repeat (first | (with_reducible exact ex_refl _) | (with_reducible assumption) | (with_reducible refine ex_drewL ?_) | (with_reducible refine ex_appR ?_ _) | (with_reducible refine ex_wx ?_ _) | (with_reducible refine ex_drew ?_) | (with_reducible refine ex_alloc ?_ _)))) (j4.out.ex (by (try show Ex _ _); repeat (first | (with_reducible exact ex_refl _) | (with_reducible assumption) | (with_reducible refine ex_drewL ?_) | (with_reducible refine ex_appR ?_ _) | (with_reducible refine ex_wx ?_ _) | (with_reducible refine ex_drew ?_) | (with_reducible refine ex_alloc ?_ _))))).mono ?_); rintro e w2 ⟨rfl, X3, rfl⟩))
          refine ⟨⟨k + 1, by omega, by go_num, (by (try show Ex _ _); repeat (first | (with_reducible exact ex_refl _) | (with_reducible assumption) | (with_reducible refine ex_drewL ?_) | (with_reducible refine ex_appR ?_ _) | (with_reducible refine ex_wx ?_ _) | (with_reducible refine ex_drew ?_) | (with_reducible refine ex_alloc ?_ _)))⟩, by simp [intOf]; omega⟩
      · obtain rfl : k = 2 := by omega
        go_wp2
        go_ret
        exact post_mk rfl (by (try show Ex _ _); repeat (first | (with_reducible exact ex_refl _) | (with_reducible assumption) | (with_reducible refine ex_drewL ?_) | (with_reducible refine ex_appR ?_ _) | (with_reducible refine ex_wx ?_ _) | (with_reducible refine ex_drew ?_) | (with_reducible refine ex_alloc ?_ _)))
set_option maxHeartbeats 8000000 in
theorem sv_ss (root : Dg) (lo hi : ByteArray) (op : Bool) (t f : Int) (ps : List Pr) (qs : List Dg) (pa : Option Addr) (ad : Addr) (L L2 pc qc : Nat) (w : World) (h300 : L2 ≤ 300) (hqc : L2 ≤ qc) (hqm : qc ≤ maxLen) (HL2 : Hid (qs.length = L2)) (HQS : Hid (∀ w', Ex w w' → SlD w' (some ad) qs))
    (HW : Hid (∀ w', Ex w w' → Calls Tryd.prog 34 #[] w' (Post w' (.bool true)))) (HO : Hid (∀ w', Ex w w' → Calls Tryd.prog 35 #[.slice pa L pc] w' (Post w' (.bool false)))) (HOR : Hid (∀ w', Calls Tryd.prog 36 #[.agg #[.string lo, .string hi, .bool op]] w' (Post w' (.bool false))))
    (HCp : Hid (∀ w', Ex w w' → Calls Tryd.prog 38 #[.slice pa L pc] w' (PostSP L ps w')))
    (d : Dg) (HTp : Hid (∀ xa xc ya yc w', Ex w w' → L ≤ xc → xc ≤ maxLen → L2 ≤ yc → yc ≤ maxLen → SlP w' xa ps → SlD w' ya qs → Calls Tryd.prog 47 #[.agg #[I t, I f, .slice xa L xc, .slice ya L2 yc]] w' (Post w' (.tuple #[.agg (rowB 32 (dF d)), I 0]))))
    (HTd : Hid (∀ w', Ex w w' → Calls Tryd.prog 48 #[.agg #[I t, I f, .slice pa L pc, .slice (some ad) L2 qc]] w' (PostTdS d w')))
    (V : Dg → Option (List Pr)) (HVe : Hid (∀ d xa xc ya yc w', Ex w w' → L ≤ xc → xc ≤ maxLen → L2 ≤ yc → yc ≤ maxLen → SlP w' xa ps → SlD w' ya qs → Calls Tryd.prog 49 #[.agg (rowB 32 (dF d)), .agg #[.string lo, .string hi, .bool op], .agg #[I t, I f, .slice xa L xc, .slice ya L2 yc]] w' (PostV w' ((V d).getD []) (errV (V d)))))
    (HVd : Hid (∀ d w', Ex w w' → Calls Tryd.prog 50 #[.agg (rowB 32 (dF d)), .agg #[.string lo, .string hi, .bool op], .agg #[I t, I f, .slice pa L pc, .slice (some ad) L2 qc]] w' (PostVd (V d) w')))
    (HSm : Hid (∀ (l : List Pr) (a b : Option Addr) (c e : Nat) w', l.length ≤ c → c ≤ maxLen → l.length ≤ e → e ≤ maxLen → SlP w' a l → SlP w' b l → Calls Tryd.prog 51 #[.slice a l.length c, .slice b l.length e] w' (Post w' (.bool true)))) :
    Calls Tryd.prog 10 #[.agg (rowB 32 (dF root)), .agg #[.string lo, .string hi, .bool op], .agg #[I t, I f, .slice pa L pc, .slice (some ad) L2 qc]] w (Post w (.bool true)) := by
  have c1 := decide_eq_false (show ¬ (300 : Int) < L2 by omega)
  have c2 := decide_eq_false (show ¬ 300 < L2 by omega)
  have hE := eqF_same (dF d) 32
  go_enter Tryd.func10, Tryd.ntmps10
  go_wp2_with (first | (go_at_call 34; (with_reducible refine (HW.out _ (by (try show Ex _ _); repeat (first | (with_reducible exact ex_refl _) | (with_reducible assumption) | (with_reducible refine ex_drewL ?_) | (with_reducible refine ex_appR ?_ _) | (with_reducible refine ex_wx ?_ _) | (with_reducible refine ex_drew ?_) | (with_reducible refine ex_alloc ?_ _)))).mono ?_); rintro e w2 ⟨rfl, Xa, rfl⟩) | (go_at_call 35; (with_reducible refine (HO.out _ (by (try show Ex _ _); repeat (first | (with_reducible exact ex_refl _) | (with_reducible assumption) | (with_reducible refine ex_drewL ?_) | (with_reducible refine ex_appR ?_ _) | (with_reducible refine ex_wx ?_ _) | (with_reducible refine ex_drew ?_) | (with_reducible refine ex_alloc ?_ _)))).mono ?_); rintro e w2 ⟨rfl, Xb, rfl⟩) | (go_at_call 36; (with_reducible refine (HOR.out _).mono ?_); rintro e w2 ⟨rfl, Xc, rfl⟩))
  obtain ⟨A0, hA0⟩ : ∃ A0, wD w root lo hi op t f pa (some ad) L L2 pc qc = A0 := ⟨_, rfl⟩
  obtain ⟨U5, hU⟩ : ∃ U5, wx (wD w root lo hi op t f pa (some ad) L L2 pc qc) ((Xa.app Xb).app Xc) = U5 := ⟨_, rfl⟩
  have hb7 : w.heap.size + 1 + 1 + 1 + (Xa.blocks.length + Xb.blocks.length + Xc.blocks.length) = U5.heap.size := by rw [← hU]; simp [go_sem]
  obtain ⟨B0, B1, B2, sA, KwA⟩ := wD_blocks w root lo hi op t f pa (some ad) L L2 pc qc
  have K05 : Ex A0 U5 := by rw [← hU, ← hA0]; exact (by (try show Ex _ _); repeat (first | (with_reducible exact ex_refl _) | (with_reducible assumption) | (with_reducible refine ex_drewL ?_) | (with_reducible refine ex_appR ?_ _) | (with_reducible refine ex_wx ?_ _) | (with_reducible refine ex_drew ?_) | (with_reducible refine ex_alloc ?_ _)))
  refine wp_world fun W5 h5 => ?_
  have h6 : W5 = U5.alloc (.cells #[I t, I f, .slice pa L pc, .slice (some ad) L2 qc] 65) := by rw [← h5, ← hU]
  subst h6
  rw [hA0] at B0 B1 B2 sA KwA
  rw [hb7]
  have K5 : Ex w U5 := ex_trans KwA K05
  have hAU : A0.heap.size ≤ U5.heap.size := ex_size K05
  clear h5 hA0 hb7 hU HW HO HOR
  have q2 := (block_cell (o := 2) B2 rfl).1
  have q3 := (block_cell (o := 3) B2 rfl).1
  have q4 : w.heap.size + 1 + 1 < A0.heap.size := by omega
  have HB0 := Lib.hid B0
  have HB1 := Lib.hid B1
  have HB2 := Lib.hid B2
  clear B0 B1 B2
  refine wp_region_fork (A0) (.look 0 (.look 1 (.look 4 (.look 5 (.fork 2 (.look 7 (.eff 3 (.eff 6 (.eff 8 (.look 9 (.eff 10 .done)))))) 3 (.eff 2 (.look 7 (.eff 6 (.eff 8 (.look 9 (.eff 10 .done))))))))))) (by (try show Ex _ _); repeat (first | (with_reducible exact ex_refl _) | (with_reducible assumption) | (with_reducible refine ex_drewL ?_) | (with_reducible refine ex_appR ?_ _) | (with_reducible refine ex_wx ?_ _) | (with_reducible refine ex_drew ?_) | (with_reducible refine ex_alloc ?_ _))) (by kernel_rfl) (by kernel_rfl) (fun _ _ d _ _ h => by cases d <;> exact h) ?_
  simp only [Fk.ops, nth]
  repeat (first | ((with_reducible refine wpFork_look ?_); go_big_quiet_step (fail); (try (with_reducible refine wpQuiet_nil ?_))) | (with_reducible refine wpFork_eff ?_) | ((with_reducible refine effT_F ?_ ?_); (focus rfl); go_simp) | ((with_reducible refine effT_T ?_ ?_); (focus rfl); (try dsimp only); go_wp2_with (first | (go_at_call 38; (with_reducible refine (HCp.out _ (by (try show Ex _ _); repeat (first | (with_reducible exact ex_refl _) | (with_reducible assumption) | (with_reducible refine ex_drewL ?_) | (with_reducible refine ex_appR ?_ _) | (with_reducible refine ex_wx ?_ _) | (with_reducible refine ex_drew ?_) | (with_reducible refine ex_alloc ?_ _)))).mono ?_); rintro e w2 ⟨xa, xc, rfl, ⟨x1, x2, _, x4⟩, Xd, rfl⟩; (try simp only [wx_wx, wx_drew] at x4); replace x4 := Lib.hid x4) | (at_builtin; refine wpApp0 (U5.alloc (.cells #[I t, I f, .slice pa L pc, .slice (some ad) L2 qc] 65)) _ _ rfl rfl (by (try show Ex _ _); repeat (first | (with_reducible exact ex_refl _) | (with_reducible assumption) | (with_reducible refine ex_drewL ?_) | (with_reducible refine ex_appR ?_ _) | (with_reducible refine ex_wx ?_ _) | (with_reducible refine ex_drew ?_) | (with_reducible refine ex_alloc ?_ _))) rfl (by simp [go_sem]) (by (try show Ex _ _); repeat (first | (with_reducible exact ex_refl _) | (with_reducible assumption) | (with_reducible refine ex_drewL ?_) | (with_reducible refine ex_appR ?_ _) | (with_reducible refine ex_wx ?_ _) | (with_reducible refine ex_drew ?_) | (with_reducible refine ex_alloc ?_ _))) (by simp [go_sem]) rfl HL2.out (HQS.out _ (by (try show Ex _ _); repeat (first | (with_reducible exact ex_refl _) | (with_reducible assumption) | (with_reducible refine ex_drewL ?_) | (with_reducible refine ex_appR ?_ _) | (with_reducible refine ex_wx ?_ _) | (with_reducible refine ex_drew ?_) | (with_reducible refine ex_alloc ?_ _)))) (by omega) (fun ya yc Xf y1 y2 y4 hmv => ?_); have x5 := Lib.hid (hmv _ _ (x4.out.ex (by (try show Ex _ _); repeat (first | (with_reducible exact ex_refl _) | (with_reducible assumption) | (with_reducible refine ex_drewL ?_) | (with_reducible refine ex_appR ?_ _) | (with_reducible refine ex_wx ?_ _) | (with_reducible refine ex_drew ?_) | (with_reducible refine ex_alloc ?_ _))))); replace y4 := Lib.hid y4; clear hmv x4)); refine mixQ_mk (by (try show Ex _ _); repeat (first | (with_reducible exact ex_refl _) | (with_reducible assumption) | (with_reducible refine ex_drewL ?_) | (with_reducible refine ex_appR ?_ _) | (with_reducible refine ex_wx ?_ _) | (with_reducible refine ex_drew ?_) | (with_reducible refine ex_alloc ?_ _))) ?_))
  all_goals (try (with_reducible refine wpFork_fork ?_ ?_))
  all_goals repeat (first | ((with_reducible refine wpFork_look ?_); go_big_quiet_step (fail); (try (with_reducible refine wpQuiet_nil ?_))) | (with_reducible refine wpFork_eff ?_) | ((with_reducible refine effT_F ?_ ?_); (focus rfl); go_simp) | ((with_reducible refine effT_T ?_ ?_); (focus rfl); (try dsimp only); go_wp2_with (first | (go_at_call 38; (with_reducible refine (HCp.out _ (by (try show Ex _ _); repeat (first | (with_reducible exact ex_refl _) | (with_reducible assumption) | (with_reducible refine ex_drewL ?_) | (with_reducible refine ex_appR ?_ _) | (with_reducible refine ex_wx ?_ _) | (with_reducible refine ex_drew ?_) | (with_reducible refine ex_alloc ?_ _)))).mono ?_); rintro e w2 ⟨xa, xc, rfl, ⟨x1, x2, _, x4⟩, Xd, rfl⟩; (try simp only [wx_wx, wx_drew] at x4); replace x4 := Lib.hid x4) | (at_builtin; refine wpApp0 (U5.alloc (.cells #[I t, I f, .slice pa L pc, .slice (some ad) L2 qc] 65)) _ _ rfl rfl (by (try show Ex _ _); repeat (first | (with_reducible exact ex_refl _) | (with_reducible assumption) | (with_reducible refine ex_drewL ?_) | (with_reducible refine ex_appR ?_ _) | (with_reducible refine ex_wx ?_ _) | (with_reducible refine ex_drew ?_) | (with_reducible refine ex_alloc ?_ _))) rfl (by simp [go_sem]) (by (try show Ex _ _); repeat (first | (with_reducible exact ex_refl _) | (with_reducible assumption) | (with_reducible refine ex_drewL ?_) | (with_reducible refine ex_appR ?_ _) | (with_reducible refine ex_wx ?_ _) | (with_reducible refine ex_drew ?_) | (with_reducible refine ex_alloc ?_ _))) (by simp [go_sem]) rfl HL2.out (HQS.out _ (by (try show Ex _ _); repeat (first | (with_reducible exact ex_refl _) | (with_reducible assumption) | (with_reducible refine ex_drewL ?_) | (with_reducible refine ex_appR ?_ _) | (with_reducible refine ex_wx ?_ _) | (with_reducible refine ex_drew ?_) | (with_reducible refine ex_alloc ?_ _)))) (by omega) (fun ya yc Xf y1 y2 y4 hmv => ?_); have x5 := Lib.hid (hmv _ _ (x4.out.ex (by (try show Ex _ _); repeat (first | (with_reducible exact ex_refl _) | (with_reducible assumption) | (with_reducible refine ex_drewL ?_) | (with_reducible refine ex_appR ?_ _) | (with_reducible refine ex_wx ?_ _) | (with_reducible refine ex_drew ?_) | (with_reducible refine ex_alloc ?_ _))))); replace y4 := Lib.hid y4; clear hmv x4)); refine mixQ_mk (by (try show Ex _ _); repeat (first | (with_reducible exact ex_refl _) | (with_reducible assumption) | (with_reducible refine ex_drewL ?_) | (with_reducible refine ex_appR ?_ _) | (with_reducible refine ex_wx ?_ _) | (with_reducible refine ex_drew ?_) | (with_reducible refine ex_alloc ?_ _))) ?_))
  all_goals (with_reducible refine wpFork_nil ?_)
  all_goals
    refine q_world fun WF hF => ?_
    obtain ⟨b7, hb7⟩ : ∃ b7, U5.heap.size = b7 := ⟨_, rfl⟩
    have KF : Ex A0 WF := by rw [← hF]; exact (by (try show Ex _ _); repeat (first | (with_reducible exact ex_refl _) | (with_reducible assumption) | (with_reducible refine ex_drewL ?_) | (with_reducible refine ex_appR ?_ _) | (with_reducible refine ex_wx ?_ _) | (with_reducible refine ex_drew ?_) | (with_reducible refine ex_alloc ?_ _)))
    have B7 : WF.heap[b7]? = some (.cells #[I t, I f, .slice xa L xc, .slice ya L2 yc] 65 (0, 0)) := by
      rw [← hF, ← hb7]
      exact ex_block (w := U5.alloc (.cells #[I t, I f, .slice xa L xc, .slice ya L2 yc] 65)) (by (try show Ex _ _); repeat (first | (with_reducible exact ex_refl _) | (with_reducible assumption) | (with_reducible refine ex_drewL ?_) | (with_reducible refine ex_appR ?_ _) | (with_reducible refine ex_wx ?_ _) | (with_reducible refine ex_drew ?_) | (with_reducible refine ex_alloc ?_ _))) (heap_alloc_new _ _)
    have xF : Hid (SlP WF xa ps) := Lib.hid (by rw [← hF]; exact slp_turnG (by intro z hz; simp at hz) x5.out)
    have yF : Hid (SlD WF ya qs) := Lib.hid (by rw [← hF]; exact sld_turnG (by intro z hz; simp at hz) y4.out)
    rw [hb7]
    clear hF x5 y4 hb7 K05 K5 hAU HCp q2 q3
    have KwF : Ex w WF := ex_trans KwA KF
    obtain ⟨m1, _, m2⟩ := block_cells (n := 4) B7 rfl
    obtain ⟨m3, _, m4⟩ := block_cells (n := 4) (ex_block KF HB2.out) rfl
    obtain ⟨m5, _, m6⟩ := block_cells (n := 32) (ex_block KF HB0.out) (by simp)
    have B1F := ex_block KF HB1.out
    have m7 := (block_cell (o := 0) B1F rfl).1
    have m8 := (block_cell (o := 1) B1F rfl).1
    have m9 := (block_cell (o := 2) B1F rfl).1
    have HB7 := Lib.hid B7
    clear B7 B1F
    go_wp2_with (first | (go_at_call 47; (with_reducible refine (HTp.out _ _ _ _ _ (by (try show Ex _ _); repeat (first | (with_reducible exact ex_refl _) | (with_reducible assumption) | (with_reducible refine ex_drewL ?_) | (with_reducible refine ex_appR ?_ _) | (with_reducible refine ex_wx ?_ _) | (with_reducible refine ex_drew ?_) | (with_reducible refine ex_alloc ?_ _))) x1 x2 y1 y2 (xF.out.ex (by (try show Ex _ _); repeat (first | (with_reducible exact ex_refl _) | (with_reducible assumption) | (with_reducible refine ex_drewL ?_) | (with_reducible refine ex_appR ?_ _) | (with_reducible refine ex_wx ?_ _) | (with_reducible refine ex_drew ?_) | (with_reducible refine ex_alloc ?_ _)))) (yF.out.ex (by (try show Ex _ _); repeat (first | (with_reducible exact ex_refl _) | (with_reducible assumption) | (with_reducible refine ex_drewL ?_) | (with_reducible refine ex_appR ?_ _) | (with_reducible refine ex_wx ?_ _) | (with_reducible refine ex_drew ?_) | (with_reducible refine ex_alloc ?_ _))))).mono ?_); rintro e w2 ⟨rfl, Xd, rfl⟩) | (go_at_call 48; (with_reducible refine (HTd.out _ (by (try show Ex _ _); repeat (first | (with_reducible exact ex_refl _) | (with_reducible assumption) | (with_reducible refine ex_drewL ?_) | (with_reducible refine ex_appR ?_ _) | (with_reducible refine ex_wx ?_ _) | (with_reducible refine ex_drew ?_) | (with_reducible refine ex_alloc ?_ _)))).mono ?_); rintro e w2 ⟨rfl, Xe, rfl⟩))
    refine wp_world fun W1 h1 => ?_
    obtain ⟨b8, hb8⟩ : ∃ b8, WF.heap.size + Xd.blocks.length + 1 + Xe.blocks.length + 1 = b8 := ⟨_, rfl⟩
    have K1 : Ex WF W1 := by rw [← h1]; exact (by (try show Ex _ _); repeat (first | (with_reducible exact ex_refl _) | (with_reducible assumption) | (with_reducible refine ex_drewL ?_) | (with_reducible refine ex_appR ?_ _) | (with_reducible refine ex_wx ?_ _) | (with_reducible refine ex_drew ?_) | (with_reducible refine ex_alloc ?_ _)))
    obtain ⟨g1, g2, g3⟩ := c2_at (a := root) (b := d) (W := W1) (g := b8) (by rw [← h1]; exact (by (try show Ex _ _); repeat (first | (with_reducible exact ex_refl _) | (with_reducible assumption) | (with_reducible refine ex_drewL ?_) | (with_reducible refine ex_appR ?_ _) | (with_reducible refine ex_wx ?_ _) | (with_reducible refine ex_drew ?_) | (with_reducible refine ex_alloc ?_ _)))) (by rw [← hb8]; simp [go_sem])
    rw [hb8]
    clear h1 hb8 m1 m3 m5 m7 m8 m9 m2 m4 m6
    have HC : Hid (∀ k, k < 2 → ∃ dk, cellsN W1 b8 (k * 32) 32 = some (rowB 32 (dF dk))) := Lib.hid fun k hk => by
      rcases Nat.lt_or_ge k 1 with h | h
      · obtain rfl : k = 0 := by omega
        exact ⟨root, g1⟩
      · obtain rfl : k = 1 := by omega
        exact ⟨d, g2⟩
    clear g1 g2
    go_loopw [82] (fun i wr => ∃ k : Nat, k ≤ 2 ∧ i = I k ∧ Ex W1 wr) (fun i _ => 2 - (intOf i).toNat)
    case atStart => exact ⟨0, by omega, rfl, ex_refl _⟩
    case round =>
      obtain ⟨k, hk, rfl, kr⟩ := hrel
      have kFr : Ex WF wr := ex_trans K1 kr
      have kwr : Ex w wr := ex_trans KwF kFr
      have kAr : Ex A0 wr := ex_trans KF kFr
      by_cases hlt : k < 2
      · obtain ⟨dk, hdk⟩ := HC.out k hlt
        have n0 := cellsN_exS kr g3 hdk
        have n1 : b8 < wr.heap.size := Nat.lt_of_lt_of_le g3 (ex_size kr)
        obtain ⟨m1, _, m2⟩ := block_cells (n := 4) (ex_block kFr HB7.out) rfl
        obtain ⟨m3, _, m4⟩ := block_cells (n := 4) (ex_block kAr HB2.out) rfl
        have B1r := ex_block kAr HB1.out
        have m6 : w.heap.size + 1 < wr.heap.size := (Array.getElem?_eq_some_iff.1 B1r).1
        have m7 := (block_cell (o := 0) B1r rfl).1
        have m8 := (block_cell (o := 1) B1r rfl).1
        have m9 := (block_cell (o := 2) B1r rfl).1
        have HE := Lib.hid (HVe.out dk)
        have HD := Lib.hid (HVd.out dk)
        unfold PostV at HE
        unfold PostVd at HD
        clear B1r hdk
        cases hV : V dk with
        | none =>
          rw [hV] at HE HD
          simp only [Option.getD_none, errV, Option.isSome_none, Bool.false_eq_true, if_false] at HE HD
          have HS0 := Lib.hid (HSm.out [])
          simp only [List.length_nil] at HS0
          go_wp2_with (first | (go_at_call 49; (with_reducible refine (HE.out _ _ _ _ _ (by (try show Ex _ _); repeat (first | (with_reducible exact ex_refl _) | (with_reducible assumption) | (with_reducible refine ex_drewL ?_) | (with_reducible refine ex_appR ?_ _) | (with_reducible refine ex_wx ?_ _) | (with_reducible refine ex_drew ?_) | (with_reducible refine ex_alloc ?_ _))) x1 x2 y1 y2 (xF.out.ex (by (try show Ex _ _); repeat (first | (with_reducible exact ex_refl _) | (with_reducible assumption) | (with_reducible refine ex_drewL ?_) | (with_reducible refine ex_appR ?_ _) | (with_reducible refine ex_wx ?_ _) | (with_reducible refine ex_drew ?_) | (with_reducible refine ex_alloc ?_ _)))) (yF.out.ex (by (try show Ex _ _); repeat (first | (with_reducible exact ex_refl _) | (with_reducible assumption) | (with_reducible refine ex_drewL ?_) | (with_reducible refine ex_appR ?_ _) | (with_reducible refine ex_wx ?_ _) | (with_reducible refine ex_drew ?_) | (with_reducible refine ex_alloc ?_ _))))).mono ?_); rintro e w2 ⟨v1, rfl, hv1, X1, rfl⟩; obtain ⟨va, vc, rfl, k1, k2, _, k4⟩ := hv1.slg; rw [List.length_nil]; (try simp only [wx_wx, wx_drew] at k4); replace k4 := Lib.hid k4; clear hv1) | (go_at_call 50; (with_reducible refine (HD.out _ (by (try show Ex _ _); repeat (first | (with_reducible exact ex_refl _) | (with_reducible assumption) | (with_reducible refine ex_drewL ?_) | (with_reducible refine ex_appR ?_ _) | (with_reducible refine ex_wx ?_ _) | (with_reducible refine ex_drew ?_) | (with_reducible refine ex_alloc ?_ _)))).mono ?_); rintro e w2 ⟨v2, rfl, hv2, X2, rfl⟩; obtain ⟨vb, vd, rfl, j1, j2, _, j4⟩ := hv2.slg; rw [List.length_nil]; (try simp only [wx_wx, wx_drew] at j4); replace j4 := Lib.hid j4; clear hv2) | (go_at_call 51; (with_reducible refine (HS0.out _ _ _ _ _ (Nat.zero_le _) k2 (Nat.zero_le _) j2 (k4.out.ex (by (try show Ex _ _); repeat (first | (with_reducible exact ex_refl _) | (with_reducible assumption) | (with_reducible refine ex_drewL ?_) | (with_reducible refine ex_appR ?_ _) | (with_reducible refine ex_wx ?_ _) | (with_reducible refine ex_drew ?_) | (with_reducible refine ex_alloc ?_ _)))) (j4.out.ex (by (try show Ex _ _); repeat (first | (with_reducible exact ex_refl _) | (with_reducible assumption) | (with_reducible refine ex_drewL ?_) | (with_reducible refine ex_appR ?_ _) | (with_reducible refine ex_wx ?_ _) | (with_reducible refine ex_drew ?_) | (with_reducible refine ex_alloc ?_ _))))).mono ?_); rintro e w2 ⟨rfl, X3, rfl⟩))
          refine ⟨⟨k + 1, by omega, by go_num, (by (try show Ex _ _); repeat (first | (with_reducible exact ex_refl _) | (with_reducible assumption) | (with_reducible refine ex_drewL ?_) | (with_reducible refine ex_appR ?_ _) | (with_reducible refine ex_wx ?_ _) | (with_reducible refine ex_drew ?_) | (with_reducible refine ex_alloc ?_ _)))⟩, by simp [intOf]; omega⟩
        | some l =>
          rw [hV] at HE HD
          simp only [Option.getD_some, errV, Option.isSome_some, if_true] at HE HD
          go_wp2_with (first | (go_at_call 49; (with_reducible refine (HE.out _ _ _ _ _ (by (try show Ex _ _); repeat (first | (with_reducible exact ex_refl _) | (with_reducible assumption) | (with_reducible refine ex_drewL ?_) | (with_reducible refine ex_appR ?_ _) | (with_reducible refine ex_wx ?_ _) | (with_reducible refine ex_drew ?_) | (with_reducible refine ex_alloc ?_ _))) x1 x2 y1 y2 (xF.out.ex (by (try show Ex _ _); repeat (first | (with_reducible exact ex_refl _) | (with_reducible assumption) | (with_reducible refine ex_drewL ?_) | (with_reducible refine ex_appR ?_ _) | (with_reducible refine ex_wx ?_ _) | (with_reducible refine ex_drew ?_) | (with_reducible refine ex_alloc ?_ _)))) (yF.out.ex (by (try show Ex _ _); repeat (first | (with_reducible exact ex_refl _) | (with_reducible assumption) | (with_reducible refine ex_drewL ?_) | (with_reducible refine ex_appR ?_ _) | (with_reducible refine ex_wx ?_ _) | (with_reducible refine ex_drew ?_) | (with_reducible refine ex_alloc ?_ _))))).mono ?_); rintro e w2 ⟨v1, rfl, hv1, X1, rfl⟩; obtain ⟨va, vc, rfl, k1, k2, _, k4⟩ := hv1.slg; (try simp only [wx_wx, wx_drew] at k4); replace k4 := Lib.hid k4; clear hv1) | (go_at_call 50; (with_reducible refine (HD.out _ (by (try show Ex _ _); repeat (first | (with_reducible exact ex_refl _) | (with_reducible assumption) | (with_reducible refine ex_drewL ?_) | (with_reducible refine ex_appR ?_ _) | (with_reducible refine ex_wx ?_ _) | (with_reducible refine ex_drew ?_) | (with_reducible refine ex_alloc ?_ _)))).mono ?_); rintro e w2 ⟨v2, rfl, hv2, X2, rfl⟩; obtain ⟨vb, vd, rfl, j1, j2, _, j4⟩ := hv2.slg; (try simp only [wx_wx, wx_drew] at j4); replace j4 := Lib.hid j4; clear hv2) | (go_at_call 51; (with_reducible refine (HSm.out _ _ _ _ _ _ k1 k2 j1 j2 (k4.out.ex (by (try show Ex _ _); repeat (first | (with_reducible exact ex_refl _) | (with_reducible assumption) | (with_reducible refine ex_drewL ?_) | (with_reducible refine ex_appR ?_ _) | (with_reducible refine ex_wx ?_ _) | (with_reducible refine ex_drew ?_) | (with_reducible refine ex_alloc ?_ _)))) (j4.out.ex (by (try show Ex _ _); repeat (first | (with_reducible exact ex_refl _) | (with_reducible assumption) | (with_reducible refine ex_drewL ?_) | (with_reducible refine ex_appR ?_ _) | (with_reducible refine ex_wx ?_ _) | (with_reducible refine ex_drew ?_) | (with_reducible refine ex_alloc ?_ _))))).mono ?_); rintro e w2 ⟨rfl, X3, rfl⟩))
          refine ⟨⟨k + 1, by omega, by go_num, (by (try show Ex _ _); repeat (first | (with_reducible exact ex_refl _) | (with_reducible assumption) | (with_reducible refine ex_drewL ?_) | (with_reducible refine ex_appR ?_ _) | (with_reducible refine ex_wx ?_ _) | (with_reducible refine ex_drew ?_) | (with_reducible refine ex_alloc ?_ _)))⟩, by simp [intOf]; omega⟩
      · obtain rfl : k = 2 := by omega
        go_wp2
        go_ret
        exact post_mk rfl (by (try show Ex _ _); repeat (first | (with_reducible exact ex_refl _) | (with_reducible assumption) | (with_reducible refine ex_drewL ?_) | (with_reducible refine ex_appR ?_ _) | (with_reducible refine ex_wx ?_ _) | (with_reducible refine ex_drew ?_) | (with_reducible refine ex_alloc ?_ _)))
set_option maxHeartbeats 8000000 in
theorem sv_nn (root : Dg) (lo hi : ByteArray) (op : Bool) (t f : Int) (ps : List Pr) (qs : List Dg) (pa : Option Addr) (L pc : Nat) (w : World) (HL2 : Hid (qs = [])) (HQS : Hid (∀ w', Ex w w' → SlD w' none qs))
    (HW : Hid (∀ w', Ex w w' → Calls Tryd.prog 34 #[] w' (Post w' (.bool true)))) (HO : Hid (∀ w', Ex w w' → Calls Tryd.prog 35 #[.slice pa L pc] w' (Post w' (.bool false)))) (HOR : Hid (∀ w', Calls Tryd.prog 36 #[.agg #[.string lo, .string hi, .bool op]] w' (Post w' (.bool false))))
    (HCp : Hid (∀ w', Ex w w' → Calls Tryd.prog 38 #[.slice pa L pc] w' (PostSP L ps w')))
    (d : Dg) (HTp : Hid (∀ xa xc ya yc w', Ex w w' → L ≤ xc → xc ≤ maxLen → 0 ≤ yc → yc ≤ maxLen → SlP w' xa ps → SlD w' ya qs → Calls Tryd.prog 47 #[.agg #[I t, I f, .slice xa L xc, .slice ya 0 yc]] w' (Post w' (.tuple #[.agg (rowB 32 (fun _ => 0)), I 251]))))
    (HTd : Hid (∀ w', Ex w w' → Calls Tryd.prog 48 #[.agg #[I t, I f, .slice pa L pc, .slice none 0 0]] w' (PostTdN w')))
    (V : Dg → Option (List Pr)) (HVe : Hid (∀ d xa xc ya yc w', Ex w w' → L ≤ xc → xc ≤ maxLen → 0 ≤ yc → yc ≤ maxLen → SlP w' xa ps → SlD w' ya qs → Calls Tryd.prog 49 #[.agg (rowB 32 (dF d)), .agg #[.string lo, .string hi, .bool op], .agg #[I t, I f, .slice xa L xc, .slice ya 0 yc]] w' (PostV w' ((V d).getD []) (errV (V d)))))
    (HVd : Hid (∀ d w', Ex w w' → Calls Tryd.prog 50 #[.agg (rowB 32 (dF d)), .agg #[.string lo, .string hi, .bool op], .agg #[I t, I f, .slice pa L pc, .slice none 0 0]] w' (PostVd (V d) w')))
    (HSm : Hid (∀ (l : List Pr) (a b : Option Addr) (c e : Nat) w', l.length ≤ c → c ≤ maxLen → l.length ≤ e → e ≤ maxLen → SlP w' a l → SlP w' b l → Calls Tryd.prog 51 #[.slice a l.length c, .slice b l.length e] w' (Post w' (.bool true)))) :
    Calls Tryd.prog 10 #[.agg (rowB 32 (dF root)), .agg #[.string lo, .string hi, .bool op], .agg #[I t, I f, .slice pa L pc, .slice none 0 0]] w (Post w (.bool true)) := by
  obtain rfl := HL2.out
  have hE := eqF_same (fun _ => 0) 32
  go_enter Tryd.func10, Tryd.ntmps10
  go_wp2_with (first | (go_at_call 34; (with_reducible refine (HW.out _ (by (try show Ex _ _); repeat (first | (with_reducible exact ex_refl _) | (with_reducible assumption) | (with_reducible refine ex_drewL ?_) | (with_reducible refine ex_appR ?_ _) | (with_reducible refine ex_wx ?_ _) | (with_reducible refine ex_drew ?_) | (with_reducible refine ex_alloc ?_ _)))).mono ?_); rintro e w2 ⟨rfl, Xa, rfl⟩) | (go_at_call 35; (with_reducible refine (HO.out _ (by (try show Ex _ _); repeat (first | (with_reducible exact ex_refl _) | (with_reducible assumption) | (with_reducible refine ex_drewL ?_) | (with_reducible refine ex_appR ?_ _) | (with_reducible refine ex_wx ?_ _) | (with_reducible refine ex_drew ?_) | (with_reducible refine ex_alloc ?_ _)))).mono ?_); rintro e w2 ⟨rfl, Xb, rfl⟩) | (go_at_call 36; (with_reducible refine (HOR.out _).mono ?_); rintro e w2 ⟨rfl, Xc, rfl⟩))
  obtain ⟨A0, hA0⟩ : ∃ A0, wD w root lo hi op t f pa none L 0 pc 0 = A0 := ⟨_, rfl⟩
  obtain ⟨U5, hU⟩ : ∃ U5, wx (wD w root lo hi op t f pa none L 0 pc 0) ((Xa.app Xb).app Xc) = U5 := ⟨_, rfl⟩
  have hb7 : w.heap.size + 1 + 1 + 1 + (Xa.blocks.length + Xb.blocks.length + Xc.blocks.length) = U5.heap.size := by rw [← hU]; simp [go_sem]
  obtain ⟨B0, B1, B2, sA, KwA⟩ := wD_blocks w root lo hi op t f pa none L 0 pc 0
  have K05 : Ex A0 U5 := by rw [← hU, ← hA0]; exact (by (try show Ex _ _); repeat (first | (with_reducible exact ex_refl _) | (with_reducible assumption) | (with_reducible refine ex_drewL ?_) | (with_reducible refine ex_appR ?_ _) | (with_reducible refine ex_wx ?_ _) | (with_reducible refine ex_drew ?_) | (with_reducible refine ex_alloc ?_ _)))
  refine wp_world fun W5 h5 => ?_
  have h6 : W5 = U5.alloc (.cells #[I t, I f, .slice pa L pc, .slice none 0 0] 65) := by rw [← h5, ← hU]
  subst h6
  rw [hA0] at B0 B1 B2 sA KwA
  rw [hb7]
  have K5 : Ex w U5 := ex_trans KwA K05
  have hAU : A0.heap.size ≤ U5.heap.size := ex_size K05
  clear h5 hA0 hb7 hU HW HO HOR
  have q2 := (block_cell (o := 2) B2 rfl).1
  have q3 := (block_cell (o := 3) B2 rfl).1
  have q4 : w.heap.size + 1 + 1 < A0.heap.size := by omega
  have HB0 := Lib.hid B0
  have HB1 := Lib.hid B1
  have HB2 := Lib.hid B2
  clear B0 B1 B2
  refine wp_region_fork (A0) (.look 0 (.look 1 (.look 4 (.look 5 (.fork 2 (.look 7 (.eff 3 (.eff 6 (.eff 8 (.look 9 (.eff 10 .done)))))) 3 (.eff 2 (.look 7 (.eff 6 (.eff 8 (.look 9 (.eff 10 .done))))))))))) (by (try show Ex _ _); repeat (first | (with_reducible exact ex_refl _) | (with_reducible assumption) | (with_reducible refine ex_drewL ?_) | (with_reducible refine ex_appR ?_ _) | (with_reducible refine ex_wx ?_ _) | (with_reducible refine ex_drew ?_) | (with_reducible refine ex_alloc ?_ _))) (by kernel_rfl) (by kernel_rfl) (fun _ _ d _ _ h => by cases d <;> exact h) ?_
  simp only [Fk.ops, nth]
  repeat (first | ((with_reducible refine wpFork_look ?_); go_big_quiet_step (fail); (try (with_reducible refine wpQuiet_nil ?_))) | (with_reducible refine wpFork_eff ?_) | ((with_reducible refine effT_F ?_ ?_); (focus rfl); go_simp) | ((with_reducible refine effT_T ?_ ?_); (focus rfl); (try dsimp only); go_wp2_with (first | (go_at_call 38; (with_reducible refine (HCp.out _ (by (try show Ex _ _); repeat (first | (with_reducible exact ex_refl _) | (with_reducible assumption) | (with_reducible refine ex_drewL ?_) | (with_reducible refine ex_appR ?_ _) | (with_reducible refine ex_wx ?_ _) | (with_reducible refine ex_drew ?_) | (with_reducible refine ex_alloc ?_ _)))).mono ?_); rintro e w2 ⟨xa, xc, rfl, ⟨x1, x2, _, x4⟩, Xd, rfl⟩; (try simp only [wx_wx, wx_drew] at x4); replace x4 := Lib.hid x4) | (at_builtin; refine wpApp0N (U5.alloc (.cells #[I t, I f, .slice pa L pc, .slice none 0 0] 65)) _ _ rfl rfl (by (try show Ex _ _); repeat (first | (with_reducible exact ex_refl _) | (with_reducible assumption) | (with_reducible refine ex_drewL ?_) | (with_reducible refine ex_appR ?_ _) | (with_reducible refine ex_wx ?_ _) | (with_reducible refine ex_drew ?_) | (with_reducible refine ex_alloc ?_ _))) rfl (by simp [go_sem]) (by (try show Ex _ _); repeat (first | (with_reducible exact ex_refl _) | (with_reducible assumption) | (with_reducible refine ex_drewL ?_) | (with_reducible refine ex_appR ?_ _) | (with_reducible refine ex_wx ?_ _) | (with_reducible refine ex_drew ?_) | (with_reducible refine ex_alloc ?_ _))) rfl (fun ya yc Xf y1 y2 y4 hmv => ?_); have x5 := Lib.hid (hmv _ _ (x4.out.ex (by (try show Ex _ _); repeat (first | (with_reducible exact ex_refl _) | (with_reducible assumption) | (with_reducible refine ex_drewL ?_) | (with_reducible refine ex_appR ?_ _) | (with_reducible refine ex_wx ?_ _) | (with_reducible refine ex_drew ?_) | (with_reducible refine ex_alloc ?_ _))))); replace y4 := Lib.hid y4; clear hmv x4)); refine mixQ_mk (by (try show Ex _ _); repeat (first | (with_reducible exact ex_refl _) | (with_reducible assumption) | (with_reducible refine ex_drewL ?_) | (with_reducible refine ex_appR ?_ _) | (with_reducible refine ex_wx ?_ _) | (with_reducible refine ex_drew ?_) | (with_reducible refine ex_alloc ?_ _))) ?_))
  all_goals (try (with_reducible refine wpFork_fork ?_ ?_))
  all_goals repeat (first | ((with_reducible refine wpFork_look ?_); go_big_quiet_step (fail); (try (with_reducible refine wpQuiet_nil ?_))) | (with_reducible refine wpFork_eff ?_) | ((with_reducible refine effT_F ?_ ?_); (focus rfl); go_simp) | ((with_reducible refine effT_T ?_ ?_); (focus rfl); (try dsimp only); go_wp2_with (first | (go_at_call 38; (with_reducible refine (HCp.out _ (by (try show Ex _ _); repeat (first | (with_reducible exact ex_refl _) | (with_reducible assumption) | (with_reducible refine ex_drewL ?_) | (with_reducible refine ex_appR ?_ _) | (with_reducible refine ex_wx ?_ _) | (with_reducible refine ex_drew ?_) | (with_reducible refine ex_alloc ?_ _)))).mono ?_); rintro e w2 ⟨xa, xc, rfl, ⟨x1, x2, _, x4⟩, Xd, rfl⟩; (try simp only [wx_wx, wx_drew] at x4); replace x4 := Lib.hid x4) | (at_builtin; refine wpApp0N (U5.alloc (.cells #[I t, I f, .slice pa L pc, .slice none 0 0] 65)) _ _ rfl rfl (by (try show Ex _ _); repeat (first | (with_reducible exact ex_refl _) | (with_reducible assumption) | (with_reducible refine ex_drewL ?_) | (with_reducible refine ex_appR ?_ _) | (with_reducible refine ex_wx ?_ _) | (with_reducible refine ex_drew ?_) | (with_reducible refine ex_alloc ?_ _))) rfl (by simp [go_sem]) (by (try show Ex _ _); repeat (first | (with_reducible exact ex_refl _) | (with_reducible assumption) | (with_reducible refine ex_drewL ?_) | (with_reducible refine ex_appR ?_ _) | (with_reducible refine ex_wx ?_ _) | (with_reducible refine ex_drew ?_) | (with_reducible refine ex_alloc ?_ _))) rfl (fun ya yc Xf y1 y2 y4 hmv => ?_); have x5 := Lib.hid (hmv _ _ (x4.out.ex (by (try show Ex _ _); repeat (first | (with_reducible exact ex_refl _) | (with_reducible assumption) | (with_reducible refine ex_drewL ?_) | (with_reducible refine ex_appR ?_ _) | (with_reducible refine ex_wx ?_ _) | (with_reducible refine ex_drew ?_) | (with_reducible refine ex_alloc ?_ _))))); replace y4 := Lib.hid y4; clear hmv x4)); refine mixQ_mk (by (try show Ex _ _); repeat (first | (with_reducible exact ex_refl _) | (with_reducible assumption) | (with_reducible refine ex_drewL ?_) | (with_reducible refine ex_appR ?_ _) | (with_reducible refine ex_wx ?_ _) | (with_reducible refine ex_drew ?_) | (with_reducible refine ex_alloc ?_ _))) ?_))
  all_goals (with_reducible refine wpFork_nil ?_)
  all_goals
    refine q_world fun WF hF => ?_
    obtain ⟨b7, hb7⟩ : ∃ b7, U5.heap.size = b7 := ⟨_, rfl⟩
    have KF : Ex A0 WF := by rw [← hF]; exact (by (try show Ex _ _); repeat (first | (with_reducible exact ex_refl _) | (with_reducible assumption) | (with_reducible refine ex_drewL ?_) | (with_reducible refine ex_appR ?_ _) | (with_reducible refine ex_wx ?_ _) | (with_reducible refine ex_drew ?_) | (with_reducible refine ex_alloc ?_ _)))
    have B7 : WF.heap[b7]? = some (.cells #[I t, I f, .slice xa L xc, .slice ya 0 yc] 65 (0, 0)) := by
      rw [← hF, ← hb7]
      exact ex_block (w := U5.alloc (.cells #[I t, I f, .slice xa L xc, .slice ya 0 yc] 65)) (by (try show Ex _ _); repeat (first | (with_reducible exact ex_refl _) | (with_reducible assumption) | (with_reducible refine ex_drewL ?_) | (with_reducible refine ex_appR ?_ _) | (with_reducible refine ex_wx ?_ _) | (with_reducible refine ex_drew ?_) | (with_reducible refine ex_alloc ?_ _))) (heap_alloc_new _ _)
    have xF : Hid (SlP WF xa ps) := Lib.hid (by rw [← hF]; exact slp_turnG (by intro z hz; simp at hz) x5.out)
    have yF : Hid (SlD WF ya []) := Lib.hid (by rw [← hF]; exact sld_turnG (by intro z hz; simp at hz) y4.out)
    rw [hb7]
    clear hF x5 y4 hb7 K05 K5 hAU HCp q2 q3
    have KwF : Ex w WF := ex_trans KwA KF
    obtain ⟨m1, _, m2⟩ := block_cells (n := 4) B7 rfl
    obtain ⟨m3, _, m4⟩ := block_cells (n := 4) (ex_block KF HB2.out) rfl
    obtain ⟨m5, _, m6⟩ := block_cells (n := 32) (ex_block KF HB0.out) (by simp)
    have B1F := ex_block KF HB1.out
    have m7 := (block_cell (o := 0) B1F rfl).1
    have m8 := (block_cell (o := 1) B1F rfl).1
    have m9 := (block_cell (o := 2) B1F rfl).1
    have HB7 := Lib.hid B7
    clear B7 B1F
    go_wp2_with (first | (go_at_call 47; (with_reducible refine (HTp.out _ _ _ _ _ (by (try show Ex _ _); repeat (first | (with_reducible exact ex_refl _) | (with_reducible assumption) | (with_reducible refine ex_drewL ?_) | (with_reducible refine ex_appR ?_ _) | (with_reducible refine ex_wx ?_ _) | (with_reducible refine ex_drew ?_) | (with_reducible refine ex_alloc ?_ _))) x1 x2 y1 y2 (xF.out.ex (by (try show Ex _ _); repeat (first | (with_reducible exact ex_refl _) | (with_reducible assumption) | (with_reducible refine ex_drewL ?_) | (with_reducible refine ex_appR ?_ _) | (with_reducible refine ex_wx ?_ _) | (with_reducible refine ex_drew ?_) | (with_reducible refine ex_alloc ?_ _)))) (yF.out.ex (by (try show Ex _ _); repeat (first | (with_reducible exact ex_refl _) | (with_reducible assumption) | (with_reducible refine ex_drewL ?_) | (with_reducible refine ex_appR ?_ _) | (with_reducible refine ex_wx ?_ _) | (with_reducible refine ex_drew ?_) | (with_reducible refine ex_alloc ?_ _))))).mono ?_); rintro e w2 ⟨rfl, Xd, rfl⟩) | (go_at_call 48; (with_reducible refine (HTd.out _ (by (try show Ex _ _); repeat (first | (with_reducible exact ex_refl _) | (with_reducible assumption) | (with_reducible refine ex_drewL ?_) | (with_reducible refine ex_appR ?_ _) | (with_reducible refine ex_wx ?_ _) | (with_reducible refine ex_drew ?_) | (with_reducible refine ex_alloc ?_ _)))).mono ?_); rintro e w2 ⟨d, rfl, Xe, rfl⟩))
    refine wp_world fun W1 h1 => ?_
    obtain ⟨b8, hb8⟩ : ∃ b8, WF.heap.size + Xd.blocks.length + 1 + Xe.blocks.length + 1 = b8 := ⟨_, rfl⟩
    have K1 : Ex WF W1 := by rw [← h1]; exact (by (try show Ex _ _); repeat (first | (with_reducible exact ex_refl _) | (with_reducible assumption) | (with_reducible refine ex_drewL ?_) | (with_reducible refine ex_appR ?_ _) | (with_reducible refine ex_wx ?_ _) | (with_reducible refine ex_drew ?_) | (with_reducible refine ex_alloc ?_ _)))
    obtain ⟨g1, g2, g3⟩ := c2_at (a := root) (b := d) (W := W1) (g := b8) (by rw [← h1]; exact (by (try show Ex _ _); repeat (first | (with_reducible exact ex_refl _) | (with_reducible assumption) | (with_reducible refine ex_drewL ?_) | (with_reducible refine ex_appR ?_ _) | (with_reducible refine ex_wx ?_ _) | (with_reducible refine ex_drew ?_) | (with_reducible refine ex_alloc ?_ _)))) (by rw [← hb8]; simp [go_sem])
    rw [hb8]
    clear h1 hb8 m1 m3 m5 m7 m8 m9 m2 m4 m6
    have HC : Hid (∀ k, k < 2 → ∃ dk, cellsN W1 b8 (k * 32) 32 = some (rowB 32 (dF dk))) := Lib.hid fun k hk => by
      rcases Nat.lt_or_ge k 1 with h | h
      · obtain rfl : k = 0 := by omega
        exact ⟨root, g1⟩
      · obtain rfl : k = 1 := by omega
        exact ⟨d, g2⟩
    clear g1 g2
    go_loopw [82] (fun i wr => ∃ k : Nat, k ≤ 2 ∧ i = I k ∧ Ex W1 wr) (fun i _ => 2 - (intOf i).toNat)
    case atStart => exact ⟨0, by omega, rfl, ex_refl _⟩
    case round =>
      obtain ⟨k, hk, rfl, kr⟩ := hrel
      have kFr : Ex WF wr := ex_trans K1 kr
      have kwr : Ex w wr := ex_trans KwF kFr
      have kAr : Ex A0 wr := ex_trans KF kFr
      by_cases hlt : k < 2
      · obtain ⟨dk, hdk⟩ := HC.out k hlt
        have n0 := cellsN_exS kr g3 hdk
        have n1 : b8 < wr.heap.size := Nat.lt_of_lt_of_le g3 (ex_size kr)
        obtain ⟨m1, _, m2⟩ := block_cells (n := 4) (ex_block kFr HB7.out) rfl
        obtain ⟨m3, _, m4⟩ := block_cells (n := 4) (ex_block kAr HB2.out) rfl
        have B1r := ex_block kAr HB1.out
        have m6 : w.heap.size + 1 < wr.heap.size := (Array.getElem?_eq_some_iff.1 B1r).1
        have m7 := (block_cell (o := 0) B1r rfl).1
        have m8 := (block_cell (o := 1) B1r rfl).1
        have m9 := (block_cell (o := 2) B1r rfl).1
        have HE := Lib.hid (HVe.out dk)
        have HD := Lib.hid (HVd.out dk)
        unfold PostV at HE
        unfold PostVd at HD
        clear B1r hdk
        cases hV : V dk with
        | none =>
          rw [hV] at HE HD
          simp only [Option.getD_none, errV, Option.isSome_none, Bool.false_eq_true, if_false] at HE HD
          have HS0 := Lib.hid (HSm.out [])
          simp only [List.length_nil] at HS0
          go_wp2_with (first | (go_at_call 49; (with_reducible refine (HE.out _ _ _ _ _ (by (try show Ex _ _); repeat (first | (with_reducible exact ex_refl _) | (with_reducible assumption) | (with_reducible refine ex_drewL ?_) | (with_reducible refine ex_appR ?_ _) | (with_reducible refine ex_wx ?_ _) | (with_reducible refine ex_drew ?_) | (with_reducible refine ex_alloc ?_ _))) x1 x2 y1 y2 (xF.out.ex (by (try show Ex _ _); repeat (first | (with_reducible exact ex_refl _) | (with_reducible assumption) | (with_reducible refine ex_drewL ?_) | (with_reducible refine ex_appR ?_ _) | (with_reducible refine ex_wx ?_ _) | (with_reducible refine ex_drew ?_) | (with_reducible refine ex_alloc ?_ _)))) (yF.out.ex (by (try show Ex _ _); repeat (first | (with_reducible exact ex_refl _) | (with_reducible assumption) | (with_reducible refine ex_drewL ?_) | (with_reducible refine ex_appR ?_ _) | (with_reducible refine ex_wx ?_ _) | (with_reducible refine ex_drew ?_) | (with_reducible refine ex_alloc ?_ _))))).mono ?_); rintro e w2 ⟨v1, rfl, hv1, X1, rfl⟩; obtain ⟨va, vc, rfl, k1, k2, _, k4⟩ := hv1.slg; rw [List.length_nil]; (try simp only [wx_wx, wx_drew] at k4); replace k4 := Lib.hid k4; clear hv1) | (go_at_call 50; (with_reducible refine (HD.out _ (by (try show Ex _ _); repeat (first | (with_reducible exact ex_refl _) | (with_reducible assumption) | (with_reducible refine ex_drewL ?_) | (with_reducible refine ex_appR ?_ _) | (with_reducible refine ex_wx ?_ _) | (with_reducible refine ex_drew ?_) | (with_reducible refine ex_alloc ?_ _)))).mono ?_); rintro e w2 ⟨v2, rfl, hv2, X2, rfl⟩; obtain ⟨vb, vd, rfl, j1, j2, _, j4⟩ := hv2.slg; rw [List.length_nil]; (try simp only [wx_wx, wx_drew] at j4); replace j4 := Lib.hid j4; clear hv2) | (go_at_call 51; (with_reducible refine (HS0.out _ _ _ _ _ (Nat.zero_le _) k2 (Nat.zero_le _) j2 (k4.out.ex (by (try show Ex _ _); repeat (first | (with_reducible exact ex_refl _) | (with_reducible assumption) | (with_reducible refine ex_drewL ?_) | (with_reducible refine ex_appR ?_ _) | (with_reducible refine ex_wx ?_ _) | (with_reducible refine ex_drew ?_) | (with_reducible refine ex_alloc ?_ _)))) (j4.out.ex (by (try show Ex _ _); repeat (first | (with_reducible exact ex_refl _) | (with_reducible assumption) | (with_reducible refine ex_drewL ?_) | (with_reducible refine ex_appR ?_ _) | (with_reducible refine ex_wx ?_ _) | (with_reducible refine ex_drew ?_) | (with_reducible refine ex_alloc ?_ _))))).mono ?_); rintro e w2 ⟨rfl, X3, rfl⟩))
          refine ⟨⟨k + 1, by omega, by go_num, (by (try show Ex _ _); repeat (first | (with_reducible exact ex_refl _) | (with_reducible assumption) | (with_reducible refine ex_drewL ?_) | (with_reducible refine ex_appR ?_ _) | (with_reducible refine ex_wx ?_ _) | (with_reducible refine ex_drew ?_) | (with_reducible refine ex_alloc ?_ _)))⟩, by simp [intOf]; omega⟩
        | some l =>
          rw [hV] at HE HD
          simp only [Option.getD_some, errV, Option.isSome_some, if_true] at HE HD
          go_wp2_with (first | (go_at_call 49; (with_reducible refine (HE.out _ _ _ _ _ (by (try show Ex _ _); repeat (first | (with_reducible exact ex_refl _) | (with_reducible assumption) | (with_reducible refine ex_drewL ?_) | (with_reducible refine ex_appR ?_ _) | (with_reducible refine ex_wx ?_ _) | (with_reducible refine ex_drew ?_) | (with_reducible refine ex_alloc ?_ _))) x1 x2 y1 y2 (xF.out.ex (by (try show Ex _ _); repeat (first | (with_reducible exact ex_refl _) | (with_reducible assumption) | (with_reducible refine ex_drewL ?_) | (with_reducible refine ex_appR ?_ _) | (with_reducible refine ex_wx ?_ _) | (with_reducible refine ex_drew ?_) | (with_reducible refine ex_alloc ?_ _)))) (yF.out.ex (by (try show Ex _ _); repeat (first | (with_reducible exact ex_refl _) | (with_reducible assumption) | (with_reducible refine ex_drewL ?_) | (with_reducible refine ex_appR ?_ _) | (with_reducible refine ex_wx ?_ _) | (with_reducible refine ex_drew ?_) | (with_reducible refine ex_alloc ?_ _))))).mono ?_); rintro e w2 ⟨v1, rfl, hv1, X1, rfl⟩; obtain ⟨va, vc, rfl, k1, k2, _, k4⟩ := hv1.slg; (try simp only [wx_wx, wx_drew] at k4); replace k4 := Lib.hid k4; clear hv1) | (go_at_call 50; (with_reducible refine (HD.out _ (by (try show Ex _ _); repeat (first | (with_reducible exact ex_refl _) | (with_reducible assumption) | (with_reducible refine ex_drewL ?_) | (with_reducible refine ex_appR ?_ _) | (with_reducible refine ex_wx ?_ _) | (with_reducible refine ex_drew ?_) | (with_reducible refine ex_alloc ?_ _)))).mono ?_); rintro e w2 ⟨v2, rfl, hv2, X2, rfl⟩; obtain ⟨vb, vd, rfl, j1, j2, _, j4⟩ := hv2.slg; (try simp only [wx_wx, wx_drew] at j4); replace j4 := Lib.hid j4; clear hv2) | (go_at_call 51; (with_reducible refine (HSm.out _ _ _ _ _ _ k1 k2 j1 j2 (k4.out.ex (by (try show Ex _ _); repeat (first | (with_reducible exact ex_refl _) | (with_reducible assumption) | (with_reducible refine ex_drewL ?_) | (with_reducible refine ex_appR ?_ _) | (with_reducible refine ex_wx ?_ _) | (with_reducible refine ex_drew ?_) | (with_reducible refine ex_alloc ?_ _)))) (j4.out.ex (by (try show Ex _ _); repeat (first | (with_reducible exact ex_refl _) | (with_reducible assumption) | (with_reducible refine ex_drewL ?_) | (with_reducible refine ex_appR ?_ _) | (with_reducible refine ex_wx ?_ _) | (with_reducible refine ex_drew ?_) | (with_reducible refine ex_alloc ?_ _))))).mono ?_); rintro e w2 ⟨rfl, X3, rfl⟩))
          refine ⟨⟨k + 1, by omega, by go_num, (by (try show Ex _ _); repeat (first | (with_reducible exact ex_refl _) | (with_reducible assumption) | (with_reducible refine ex_drewL ?_) | (with_reducible refine ex_appR ?_ _) | (with_reducible refine ex_wx ?_ _) | (with_reducible refine ex_drew ?_) | (with_reducible refine ex_alloc ?_ _)))⟩, by simp [intOf]; omega⟩
      · obtain rfl : k = 2 := by omega
        go_wp2
        go_ret
        exact post_mk rfl (by (try show Ex _ _); repeat (first | (with_reducible exact ex_refl _) | (with_reducible assumption) | (with_reducible refine ex_drewL ?_) | (with_reducible refine ex_appR ?_ _) | (with_reducible refine ex_wx ?_ _) | (with_reducible refine ex_drew ?_) | (with_reducible refine ex_alloc ?_ _)))
set_option maxHeartbeats 8000000 in
theorem sv_ns (root : Dg) (lo hi : ByteArray) (op : Bool) (t f : Int) (ps : List Pr) (qs : List Dg) (pa : Option Addr) (L pc : Nat) (w : World) (HL2 : Hid (qs = [])) (HQS : Hid (∀ w', Ex w w' → SlD w' none qs))
    (HW : Hid (∀ w', Ex w w' → Calls Tryd.prog 34 #[] w' (Post w' (.bool true)))) (HO : Hid (∀ w', Ex w w' → Calls Tryd.prog 35 #[.slice pa L pc] w' (Post w' (.bool false)))) (HOR : Hid (∀ w', Calls Tryd.prog 36 #[.agg #[.string lo, .string hi, .bool op]] w' (Post w' (.bool false))))
    (HCp : Hid (∀ w', Ex w w' → Calls Tryd.prog 38 #[.slice pa L pc] w' (PostSP L ps w')))
    (d : Dg) (HTp : Hid (∀ xa xc ya yc w', Ex w w' → L ≤ xc → xc ≤ maxLen → 0 ≤ yc → yc ≤ maxLen → SlP w' xa ps → SlD w' ya qs → Calls Tryd.prog 47 #[.agg #[I t, I f, .slice xa L xc, .slice ya 0 yc]] w' (Post w' (.tuple #[.agg (rowB 32 (dF d)), I 0]))))
    (HTd : Hid (∀ w', Ex w w' → Calls Tryd.prog 48 #[.agg #[I t, I f, .slice pa L pc, .slice none 0 0]] w' (PostTdS d w')))
    (V : Dg → Option (List Pr)) (HVe : Hid (∀ d xa xc ya yc w', Ex w w' → L ≤ xc → xc ≤ maxLen → 0 ≤ yc → yc ≤ maxLen → SlP w' xa ps → SlD w' ya qs → Calls Tryd.prog 49 #[.agg (rowB 32 (dF d)), .agg #[.string lo, .string hi, .bool op], .agg #[I t, I f, .slice xa L xc, .slice ya 0 yc]] w' (PostV w' ((V d).getD []) (errV (V d)))))
    (HVd : Hid (∀ d w', Ex w w' → Calls Tryd.prog 50 #[.agg (rowB 32 (dF d)), .agg #[.string lo, .string hi, .bool op], .agg #[I t, I f, .slice pa L pc, .slice none 0 0]] w' (PostVd (V d) w')))
    (HSm : Hid (∀ (l : List Pr) (a b : Option Addr) (c e : Nat) w', l.length ≤ c → c ≤ maxLen → l.length ≤ e → e ≤ maxLen → SlP w' a l → SlP w' b l → Calls Tryd.prog 51 #[.slice a l.length c, .slice b l.length e] w' (Post w' (.bool true)))) :
    Calls Tryd.prog 10 #[.agg (rowB 32 (dF root)), .agg #[.string lo, .string hi, .bool op], .agg #[I t, I f, .slice pa L pc, .slice none 0 0]] w (Post w (.bool true)) := by
  obtain rfl := HL2.out
  have hE := eqF_same (dF d) 32
  go_enter Tryd.func10, Tryd.ntmps10
  go_wp2_with (first | (go_at_call 34; (with_reducible refine (HW.out _ (by (try show Ex _ _); repeat (first | (with_reducible exact ex_refl _) | (with_reducible assumption) | (with_reducible refine ex_drewL ?_) | (with_reducible refine ex_appR ?_ _) | (with_reducible refine ex_wx ?_ _) | (with_reducible refine ex_drew ?_) | (with_reducible refine ex_alloc ?_ _)))).mono ?_); rintro e w2 ⟨rfl, Xa, rfl⟩) | (go_at_call 35; (with_reducible refine (HO.out _ (by (try show Ex _ _); repeat (first | (with_reducible exact ex_refl _) | (with_reducible assumption) | (with_reducible refine ex_drewL ?_) | (with_reducible refine ex_appR ?_ _) | (with_reducible refine ex_wx ?_ _) | (with_reducible refine ex_drew ?_) | (with_reducible refine ex_alloc ?_ _)))).mono ?_); rintro e w2 ⟨rfl, Xb, rfl⟩) | (go_at_call 36; (with_reducible refine (HOR.out _).mono ?_); rintro e w2 ⟨rfl, Xc, rfl⟩))
  obtain ⟨A0, hA0⟩ : ∃ A0, wD w root lo hi op t f pa none L 0 pc 0 = A0 := ⟨_, rfl⟩
  obtain ⟨U5, hU⟩ : ∃ U5, wx (wD w root lo hi op t f pa none L 0 pc 0) ((Xa.app Xb).app Xc) = U5 := ⟨_, rfl⟩
  have hb7 : w.heap.size + 1 + 1 + 1 + (Xa.blocks.length + Xb.blocks.length + Xc.blocks.length) = U5.heap.size := by rw [← hU]; simp [go_sem]
  obtain ⟨B0, B1, B2, sA, KwA⟩ := wD_blocks w root lo hi op t f pa none L 0 pc 0
  have K05 : Ex A0 U5 := by rw [← hU, ← hA0]; exact (by (try show Ex _ _); repeat (first | (with_reducible exact ex_refl _) | (with_reducible assumption) | (with_reducible refine ex_drewL ?_) | (with_reducible refine ex_appR ?_ _) | (with_reducible refine ex_wx ?_ _) | (with_reducible refine ex_drew ?_) | (with_reducible refine ex_alloc ?_ _)))
  refine wp_world fun W5 h5 => ?_
  have h6 : W5 = U5.alloc (.cells #[I t, I f, .slice pa L pc, .slice none 0 0] 65) := by rw [← h5, ← hU]
  subst h6
  rw [hA0] at B0 B1 B2 sA KwA
  rw [hb7]
  have K5 : Ex w U5 := ex_trans KwA K05
  have hAU : A0.heap.size ≤ U5.heap.size := ex_size K05
  clear h5 hA0 hb7 hU HW HO HOR
  have q2 := (block_cell (o := 2) B2 rfl).1
  have q3 := (block_cell (o := 3) B2 rfl).1
  have q4 : w.heap.size + 1 + 1 < A0.heap.size := by omega
  have HB0 := Lib.hid B0
  have HB1 := Lib.hid B1
  have HB2 := Lib.hid B2
  clear B0 B1 B2
  refine wp_region_fork (A0) (.look 0 (.look 1 (.look 4 (.look 5 (.fork 2 (.look 7 (.eff 3 (.eff 6 (.eff 8 (.look 9 (.eff 10 .done)))))) 3 (.eff 2 (.look 7 (.eff 6 (.eff 8 (.look 9 (.eff 10 .done))))))))))) (by (try show Ex _ _); repeat (first | (with_reducible exact ex_refl _) | (with_reducible assumption) | (with_reducible refine ex_drewL ?_) | (with_reducible refine ex_appR ?_ _) | (with_reducible refine ex_wx ?_ _) | (with_reducible refine ex_drew ?_) | (with_reducible refine ex_alloc ?_ _))) (by kernel_rfl) (by kernel_rfl) (fun _ _ d _ _ h => by cases d <;> exact h) ?_
  simp only [Fk.ops, nth]
  repeat (first | ((with_reducible refine wpFork_look ?_); go_big_quiet_step (fail); (try (with_reducible refine wpQuiet_nil ?_))) | (with_reducible refine wpFork_eff ?_) | ((with_reducible refine effT_F ?_ ?_); (focus rfl); go_simp) | ((with_reducible refine effT_T ?_ ?_); (focus rfl); (try dsimp only); go_wp2_with (first | (go_at_call 38; (with_reducible refine (HCp.out _ (by (try show Ex _ _); repeat (first | (with_reducible exact ex_refl _) | (with_reducible assumption) | (with_reducible refine ex_drewL ?_) | (with_reducible refine ex_appR ?_ _) | (with_reducible refine ex_wx ?_ _) | (with_reducible refine ex_drew ?_) | (with_reducible refine ex_alloc ?_ _)))).mono ?_); rintro e w2 ⟨xa, xc, rfl, ⟨x1, x2, _, x4⟩, Xd, rfl⟩; (try simp only [wx_wx, wx_drew] at x4); replace x4 := Lib.hid x4) | (at_builtin; refine wpApp0N (U5.alloc (.cells #[I t, I f, .slice pa L pc, .slice none 0 0] 65)) _ _ rfl rfl (by (try show Ex _ _); repeat (first | (with_reducible exact ex_refl _) | (with_reducible assumption) | (with_reducible refine ex_drewL ?_) | (with_reducible refine ex_appR ?_ _) | (with_reducible refine ex_wx ?_ _) | (with_reducible refine ex_drew ?_) | (with_reducible refine ex_alloc ?_ _))) rfl (by simp [go_sem]) (by (try show Ex _ _); repeat (first | (with_reducible exact ex_refl _) | (with_reducible assumption) | (with_reducible refine ex_drewL ?_) | (with_reducible refine ex_appR ?_ _) | (with_reducible refine ex_wx ?_ _) | (with_reducible refine ex_drew ?_) | (with_reducible refine ex_alloc ?_ _))) rfl (fun ya yc Xf y1 y2 y4 hmv => ?_); have x5 := Lib.hid (hmv _ _ (x4.out.ex (by (try show Ex _ _); repeat (first | (with_reducible exact ex_refl _) | (with_reducible assumption) | (with_reducible refine ex_drewL ?_) | (with_reducible refine ex_appR ?_ _) | (with_reducible refine ex_wx ?_ _) | (with_reducible refine ex_drew ?_) | (with_reducible refine ex_alloc ?_ _))))); replace y4 := Lib.hid y4; clear hmv x4)); refine mixQ_mk (by (try show Ex _ _); repeat (first | (with_reducible exact ex_refl _) | (with_reducible assumption) | (with_reducible refine ex_drewL ?_) | (with_reducible refine ex_appR ?_ _) | (with_reducible refine ex_wx ?_ _) | (with_reducible refine ex_drew ?_) | (with_reducible refine ex_alloc ?_ _))) ?_))
  all_goals (try (with_reducible refine wpFork_fork ?_ ?_))
  all_goals repeat (first | ((with_reducible refine wpFork_look ?_); go_big_quiet_step (fail); (try (with_reducible refine wpQuiet_nil ?_))) | (with_reducible refine wpFork_eff ?_) | ((with_reducible refine effT_F ?_ ?_); (focus rfl); go_simp) | ((with_reducible refine effT_T ?_ ?_); (focus rfl); (try dsimp only); go_wp2_with (first | (go_at_call 38; (with_reducible refine (HCp.out _ (by (try show Ex _ _); repeat (first | (with_reducible exact ex_refl _) | (with_reducible assumption) | (with_reducible refine ex_drewL ?_) | (with_reducible refine ex_appR ?_ _) | (with_reducible refine ex_wx ?_ _) | (with_reducible refine ex_drew ?_) | (with_reducible refine ex_alloc ?_ _)))).mono ?_); rintro e w2 ⟨xa, xc, rfl, ⟨x1, x2, _, x4⟩, Xd, rfl⟩; (try simp only [wx_wx, wx_drew] at x4); replace x4 := Lib.hid x4) | (at_builtin; refine wpApp0N (U5.alloc (.cells #[I t, I f, .slice pa L pc, .slice none 0 0] 65)) _ _ rfl rfl (by (try show Ex _ _); repeat (first | (with_reducible exact ex_refl _) | (with_reducible assumption) | (with_reducible refine ex_drewL ?_) | (with_reducible refine ex_appR ?_ _) | (with_reducible refine ex_wx ?_ _) | (with_reducible refine ex_drew ?_) | (with_reducible refine ex_alloc ?_ _))) rfl (by simp [go_sem]) (by (try show Ex _ _); repeat (first | (with_reducible exact ex_refl _) | (with_reducible assumption) | (with_reducible refine ex_drewL ?_) | (with_reducible refine ex_appR ?_ _) | (with_reducible refine ex_wx ?_ _) | (with_reducible refine ex_drew ?_) | (with_reducible refine ex_alloc ?_ _))) rfl (fun ya yc Xf y1 y2 y4 hmv => ?_); have x5 := Lib.hid (hmv _ _ (x4.out.ex (by (try show Ex _ _); repeat (first | (with_reducible exact ex_refl _) | (with_reducible assumption) | (with_reducible refine ex_drewL ?_) | (with_reducible refine ex_appR ?_ _) | (with_reducible refine ex_wx ?_ _) | (with_reducible refine ex_drew ?_) | (with_reducible refine ex_alloc ?_ _))))); replace y4 := Lib.hid y4; clear hmv x4)); refine mixQ_mk (by (try show Ex _ _); repeat (first | (with_reducible exact ex_refl _) | (with_reducible assumption) | (with_reducible refine ex_drewL ?_) | (with_reducible refine ex_appR ?_ _) | (with_reducible refine ex_wx ?_ _) | (with_reducible refine ex_drew ?_) | (with_reducible refine ex_alloc ?_ _))) ?_))
  all_goals (with_reducible refine wpFork_nil ?_)
  all_goals
    refine q_world fun WF hF => ?_
    obtain ⟨b7, hb7⟩ : ∃ b7, U5.heap.size = b7 := ⟨_, rfl⟩
    have KF : Ex A0 WF := by rw [← hF]; exact (by (try show Ex _ _); repeat (first | (with_reducible exact ex_refl _) | (with_reducible assumption) | (with_reducible refine ex_drewL ?_) | (with_reducible refine ex_appR ?_ _) | (with_reducible refine ex_wx ?_ _) | (with_reducible refine ex_drew ?_) | (with_reducible refine ex_alloc ?_ _)))
    have B7 : WF.heap[b7]? = some (.cells #[I t, I f, .slice xa L xc, .slice ya 0 yc] 65 (0, 0)) := by
      rw [← hF, ← hb7]
      exact ex_block (w := U5.alloc (.cells #[I t, I f, .slice xa L xc, .slice ya 0 yc] 65)) (by (try show Ex _ _); repeat (first | (with_reducible exact ex_refl _) | (with_reducible assumption) | (with_reducible refine ex_drewL ?_) | (with_reducible refine ex_appR ?_ _) | (with_reducible refine ex_wx ?_ _) | (with_reducible refine ex_drew ?_) | (with_reducible refine ex_alloc ?_ _))) (heap_alloc_new _ _)
    have xF : Hid (SlP WF xa ps) := Lib.hid (by rw [← hF]; exact slp_turnG (by intro z hz; simp at hz) x5.out)
    have yF : Hid (SlD WF ya []) := Lib.hid (by rw [← hF]; exact sld_turnG (by intro z hz; simp at hz) y4.out)
    rw [hb7]
    clear hF x5 y4 hb7 K05 K5 hAU HCp q2 q3
    have KwF : Ex w WF := ex_trans KwA KF
    obtain ⟨m1, _, m2⟩ := block_cells (n := 4) B7 rfl
    obtain ⟨m3, _, m4⟩ := block_cells (n := 4) (ex_block KF HB2.out) rfl
    obtain ⟨m5, _, m6⟩ := block_cells (n := 32) (ex_block KF HB0.out) (by simp)
    have B1F := ex_block KF HB1.out
    have m7 := (block_cell (o := 0) B1F rfl).1
    have m8 := (block_cell (o := 1) B1F rfl).1
    have m9 := (block_cell (o := 2) B1F rfl).1
    have HB7 := Lib.hid B7
    clear B7 B1F
    go_wp2_with (first | (go_at_call 47; (with_reducible refine (HTp.out _ _ _ _ _ (by (try show Ex _ _); repeat (first | (with_reducible exact ex_refl _) | (with_reducible assumption) | (with_reducible refine ex_drewL ?_) | (with_reducible refine ex_appR ?_ _) | (with_reducible refine ex_wx ?_ _) | (with_reducible refine ex_drew ?_) | (with_reducible refine ex_alloc ?_ _))) x1 x2 y1 y2 (xF.out.ex (by (try show Ex _ _); repeat (first | (with_reducible exact ex_refl _) | (with_reducible assumption) | (with_reducible refine ex_drewL ?_) | (with_reducible refine ex_appR ?_ _) | (with_reducible refine ex_wx ?_ _) | (with_reducible refine ex_drew ?_) | (with_reducible refine ex_alloc ?_ _)))) (yF.out.ex (by (try show Ex _ _); repeat (first | (with_reducible exact ex_refl _) | (with_reducible assumption) | (with_reducible refine ex_drewL ?_) | (with_reducible refine ex_appR ?_ _) | (with_reducible refine ex_wx ?_ _) | (with_reducible refine ex_drew ?_) | (with_reducible refine ex_alloc ?_ _))))).mono ?_); rintro e w2 ⟨rfl, Xd, rfl⟩) | (go_at_call 48; (with_reducible refine (HTd.out _ (by (try show Ex _ _); repeat (first | (with_reducible exact ex_refl _) | (with_reducible assumption) | (with_reducible refine ex_drewL ?_) | (with_reducible refine ex_appR ?_ _) | (with_reducible refine ex_wx ?_ _) | (with_reducible refine ex_drew ?_) | (with_reducible refine ex_alloc ?_ _)))).mono ?_); rintro e w2 ⟨rfl, Xe, rfl⟩))
    refine wp_world fun W1 h1 => ?_
    obtain ⟨b8, hb8⟩ : ∃ b8, WF.heap.size + Xd.blocks.length + 1 + Xe.blocks.length + 1 = b8 := ⟨_, rfl⟩
    have K1 : Ex WF W1 := by rw [← h1]; exact (by (try show Ex _ _); repeat (first | (with_reducible exact ex_refl _) | (with_reducible assumption) | (with_reducible refine ex_drewL ?_) | (with_reducible refine ex_appR ?_ _) | (with_reducible refine ex_wx ?_ _) | (with_reducible refine ex_drew ?_) | (with_reducible refine ex_alloc ?_ _)))
    obtain ⟨g1, g2, g3⟩ := c2_at (a := root) (b := d) (W := W1) (g := b8) (by rw [← h1]; exact (by (try show Ex _ _); repeat (first | (with_reducible exact ex_refl _) | (with_reducible assumption) | (with_reducible refine ex_drewL ?_) | (with_reducible refine ex_appR ?_ _) | (with_reducible refine ex_wx ?_ _) | (with_reducible refine ex_drew ?_) | (with_reducible refine ex_alloc ?_ _)))) (by rw [← hb8]; simp [go_sem])
    rw [hb8]
    clear h1 hb8 m1 m3 m5 m7 m8 m9 m2 m4 m6
    have HC : Hid (∀ k, k < 2 → ∃ dk, cellsN W1 b8 (k * 32) 32 = some (rowB 32 (dF dk))) := Lib.hid fun k hk => by
      rcases Nat.lt_or_ge k 1 with h | h
      · obtain rfl : k = 0 := by omega
        exact ⟨root, g1⟩
      · obtain rfl : k = 1 := by omega
        exact ⟨d, g2⟩
    clear g1 g2
    go_loopw [82] (fun i wr => ∃ k : Nat, k ≤ 2 ∧ i = I k ∧ Ex W1 wr) (fun i _ => 2 - (intOf i).toNat)
    case atStart => exact ⟨0, by omega, rfl, ex_refl _⟩
    case round =>
      obtain ⟨k, hk, rfl, kr⟩ := hrel
      have kFr : Ex WF wr := ex_trans K1 kr
      have kwr : Ex w wr := ex_trans KwF kFr
      have kAr : Ex A0 wr := ex_trans KF kFr
      by_cases hlt : k < 2
      · obtain ⟨dk, hdk⟩ := HC.out k hlt
        have n0 := cellsN_exS kr g3 hdk
        have n1 : b8 < wr.heap.size := Nat.lt_of_lt_of_le g3 (ex_size kr)
        obtain ⟨m1, _, m2⟩ := block_cells (n := 4) (ex_block kFr HB7.out) rfl
        obtain ⟨m3, _, m4⟩ := block_cells (n := 4) (ex_block kAr HB2.out) rfl
        have B1r := ex_block kAr HB1.out
        have m6 : w.heap.size + 1 < wr.heap.size := (Array.getElem?_eq_some_iff.1 B1r).1
        have m7 := (block_cell (o := 0) B1r rfl).1
        have m8 := (block_cell (o := 1) B1r rfl).1
        have m9 := (block_cell (o := 2) B1r rfl).1
        have HE := Lib.hid (HVe.out dk)
        have HD := Lib.hid (HVd.out dk)
        unfold PostV at HE
        unfold PostVd at HD
        clear B1r hdk
        cases hV : V dk with
        | none =>
          rw [hV] at HE HD
          simp only [Option.getD_none, errV, Option.isSome_none, Bool.false_eq_true, if_false] at HE HD
          have HS0 := Lib.hid (HSm.out [])
          simp only [List.length_nil] at HS0
          go_wp2_with (first | (go_at_call 49; (with_reducible refine (HE.out _ _ _ _ _ (by (try show Ex _ _); repeat (first | (with_reducible exact ex_refl _) | (with_reducible assumption) | (with_reducible refine ex_drewL ?_) | (with_reducible refine ex_appR ?_ _) | (with_reducible refine ex_wx ?_ _) | (with_reducible refine ex_drew ?_) | (with_reducible refine ex_alloc ?_ _))) x1 x2 y1 y2 (xF.out.ex (by (try show Ex _ _); repeat (first | (with_reducible exact ex_refl _) | (with_reducible assumption) | (with_reducible refine ex_drewL ?_) | (with_reducible refine ex_appR ?_ _) | (with_reducible refine ex_wx ?_ _) | (with_reducible refine ex_drew ?_) | (with_reducible refine ex_alloc ?_ _)))) (yF.out.ex (by (try show Ex _ _); repeat (first | (with_reducible exact ex_refl _) | (with_reducible assumption) | (with_reducible refine ex_drewL ?_) | (with_reducible refine ex_appR ?_ _) | (with_reducible refine ex_wx ?_ _) | (with_reducible refine ex_drew ?_) | (with_reducible refine ex_alloc ?_ _))))).mono ?_); rintro e w2 ⟨v1, rfl, hv1, X1, rfl⟩; obtain ⟨va, vc, rfl, k1, k2, _, k4⟩ := hv1.slg; rw [List.length_nil]; (try simp only [wx_wx, wx_drew] at k4); replace k4 := Lib.hid k4; clear hv1) | (go_at_call 50; (with_reducible refine (HD.out _ (by (try show Ex _ _); repeat (first | (with_reducible exact ex_refl _) | (with_reducible assumption) | (with_reducible refine ex_drewL ?_) | (with_reducible refine ex_appR ?_ _) | (with_reducible refine ex_wx ?_ _) | (with_reducible refine ex_drew ?_) | (with_reducible refine ex_alloc ?_ _)))).mono ?_); rintro e w2 ⟨v2, rfl, hv2, X2, rfl⟩; obtain ⟨vb, vd, rfl, j1, j2, _, j4⟩ := hv2.slg; rw [List.length_nil]; (try simp only [wx_wx, wx_drew] at j4); replace j4 := Lib.hid j4; clear hv2) | (go_at_call 51; (with_reducible refine (HS0.out _ _ _ _ _ (Nat.zero_le _) k2 (Nat.zero_le _) j2 (k4.out.ex (by (try show Ex _ _); repeat (first | (with_reducible exact ex_refl _) | (with_reducible assumption) | (with_reducible refine ex_drewL ?_) | (with_reducible refine ex_appR ?_ _) | (with_reducible refine ex_wx ?_ _) | (with_reducible refine ex_drew ?_) | (with_reducible refine ex_alloc ?_ _)))) (j4.out.ex (by (try show Ex _ _); repeat (first | (with_reducible exact ex_refl _) | (with_reducible assumption) | (with_reducible refine ex_drewL ?_) | (with_reducible refine ex_appR ?_ _) | (with_reducible refine ex_wx ?_ _) | (with_reducible refine ex_drew ?_) | (with_reducible refine ex_alloc ?_ _))))).mono ?_); rintro e w2 ⟨rfl, X3, rfl⟩))
          refine ⟨⟨k + 1, by omega, by go_num, (by (try show Ex _ _); repeat (first | (with_reducible exact ex_refl _) | (with_reducible assumption) | (with_reducible refine ex_drewL ?_) | (with_reducible refine ex_appR ?_ _) | (with_reducible refine ex_wx ?_ _) | (with_reducible refine ex_drew ?_) | (with_reducible refine ex_alloc ?_ _)))⟩, by simp [intOf]; omega⟩
        | some l =>
          rw [hV] at HE HD
          simp only [Option.getD_some, errV, Option.isSome_some, if_true] at HE HD
          go_wp2_with (first | (go_at_call 49; (with_reducible refine (HE.out _ _ _ _ _ (by (try show Ex _ _); repeat (first | (with_reducible exact ex_refl _) | (with_reducible assumption) | (with_reducible refine ex_drewL ?_) | (with_reducible refine ex_appR ?_ _) | (with_reducible refine ex_wx ?_ _) | (with_reducible refine ex_drew ?_) | (with_reducible refine ex_alloc ?_ _))) x1 x2 y1 y2 (xF.out.ex (by (try show Ex _ _); repeat (first | (with_reducible exact ex_refl _) | (with_reducible assumption) | (with_reducible refine ex_drewL ?_) | (with_reducible refine ex_appR ?_ _) | (with_reducible refine ex_wx ?_ _) | (with_reducible refine ex_drew ?_) | (with_reducible refine ex_alloc ?_ _)))) (yF.out.ex (by (try show Ex _ _); repeat (first | (with_reducible exact ex_refl _) | (with_reducible assumption) | (with_reducible refine ex_drewL ?_) | (with_reducible refine ex_appR ?_ _) | (with_reducible refine ex_wx ?_ _) | (with_reducible refine ex_drew ?_) | (with_reducible refine ex_alloc ?_ _))))).mono ?_); rintro e w2 ⟨v1, rfl, hv1, X1, rfl⟩; obtain ⟨va, vc, rfl, k1, k2, _, k4⟩ := hv1.slg; (try simp only [wx_wx, wx_drew] at k4); replace k4 := Lib.hid k4; clear hv1) | (go_at_call 50; (with_reducible refine (HD.out _ (by (try show Ex _ _); repeat (first | (with_reducible exact ex_refl _) | (with_reducible assumption) | (with_reducible refine ex_drewL ?_) | (with_reducible refine ex_appR ?_ _) | (with_reducible refine ex_wx ?_ _) | (with_reducible refine ex_drew ?_) | (with_reducible refine ex_alloc ?_ _)))).mono ?_); rintro e w2 ⟨v2, rfl, hv2, X2, rfl⟩; obtain ⟨vb, vd, rfl, j1, j2, _, j4⟩ := hv2.slg; (try simp only [wx_wx, wx_drew] at j4); replace j4 := Lib.hid j4; clear hv2) | (go_at_call 51; (with_reducible refine (HSm.out _ _ _ _ _ _ k1 k2 j1 j2 (k4.out.ex (by (try show Ex _ _); repeat (first | (with_reducible exact ex_refl _) | (with_reducible assumption) | (with_reducible refine ex_drewL ?_) | (with_reducible refine ex_appR ?_ _) | (with_reducible refine ex_wx ?_ _) | (with_reducible refine ex_drew ?_) | (with_reducible refine ex_alloc ?_ _)))) (j4.out.ex (by (try show Ex _ _); repeat (first | (with_reducible exact ex_refl _) | (with_reducible assumption) | (with_reducible refine ex_drewL ?_) | (with_reducible refine ex_appR ?_ _) | (with_reducible refine ex_wx ?_ _) | (with_reducible refine ex_drew ?_) | (with_reducible refine ex_alloc ?_ _))))).mono ?_); rintro e w2 ⟨rfl, X3, rfl⟩))
          refine ⟨⟨k + 1, by omega, by go_num, (by (try show Ex _ _); repeat (first | (with_reducible exact ex_refl _) | (with_reducible assumption) | (with_reducible refine ex_drewL ?_) | (with_reducible refine ex_appR ?_ _) | (with_reducible refine ex_wx ?_ _) | (with_reducible refine ex_drew ?_) | (with_reducible refine ex_alloc ?_ _)))⟩, by simp [intOf]; omega⟩
      · obtain rfl : k = 2 := by omega
        go_wp2
        go_ret
        exact post_mk rfl (by (try show Ex _ _); repeat (first | (with_reducible exact ex_refl _) | (with_reducible assumption) | (with_reducible refine ex_drewL ?_) | (with_reducible refine ex_appR ?_ _) | (with_reducible refine ex_wx ?_ _) | (with_reducible refine ex_drew ?_) | (with_reducible refine ex_alloc ?_ _)))
theorem sverifies_any (root : Dg) (r : Rg) (t f : Int) (ps : List Pr) (qs : List Dg) (pa qa : Option Addr) (pc qc : Nat) (w : World) (hpc : ps.length ≤ pc) (hpm : pc ≤ maxLen) (hpa : pa = none → pc = 0) (hps : SlP w pa ps) (hqc : qs.length ≤ qc) (hqm : qc ≤ maxLen) (hqa : qa = none → qc = 0) (hqs : SlD w qa qs) (G : Glob w) :
    Calls Tryd.prog 10 #[.agg (rowB 32 (dF root)), .agg (RC r), .agg #[I t, I f, .slice pa ps.length pc, .slice qa qs.length qc]] w (Post w (.bool true)) := by
  have HW : Hid (∀ w', Ex w w' → Calls Tryd.prog 34 #[] w' (Post w' (.bool true))) := Lib.hid fun w' k => wakesP_any w' (G.ex k)
  have HO : Hid (∀ w', Ex w w' → Calls Tryd.prog 35 #[.slice pa ps.length pc] w' (Post w' (.bool (overP ps)))) := Lib.hid fun w' k => overP_any ps pa pc w' hpc hpm (hps.ex k)
  have HOR := Lib.hid (fun w' => overR_any r w')
  cases hov : overP ps with
  | true =>
    rw [hov] at HO
    exact sv_over _ root r.lo r.hi r.op t f pa qa _ _ pc qc w HW HO HOR
  | false =>
    rw [hov] at HO
    cases hor : overR r with
    | true =>
      rw [hor] at HOR
      exact sv_overR root r.lo r.hi r.op t f pa qa _ _ pc qc w HW HO HOR
    | false =>
      rw [hor] at HOR
      by_cases hl : 300 < qs.length
      · exact sv_long root r.lo r.hi r.op t f pa qa _ _ pc qc w HW HO HOR hl
      · have hl3 := over_len hov
        have HCp : Hid (∀ w', Ex w w' → Calls Tryd.prog 38 #[.slice pa ps.length pc] w' (PostSP ps.length ps w')) := Lib.hid fun w' k => copied_slice ps pa pc w' (by omega) hpc hpm hpa (hps.ex k)
        have HSm : Hid (∀ (l : List Pr) (a b : Option Addr) (c e : Nat) w', l.length ≤ c → c ≤ maxLen → l.length ≤ e → e ≤ maxLen → SlP w' a l → SlP w' b l → Calls Tryd.prog 51 #[.slice a l.length c, .slice b l.length e] w' (Post w' (.bool true))) := Lib.hid fun l a b c e w' h1 h2 h3 h4 h5 h6 => by
          have := sameP_any l l a b c e w' h1 h2 h3 h4 h5 h6
          rwa [decide_eq_true rfl] at this
        have HVe : Hid (∀ d xa xc ya yc w', Ex w w' → ps.length ≤ xc → xc ≤ maxLen → qs.length ≤ yc → yc ≤ maxLen → SlP w' xa ps → SlD w' ya qs → Calls Tryd.prog 49 #[.agg (rowB 32 (dF d)), .agg (RC r), .agg #[I t, I f, .slice xa ps.length xc, .slice ya qs.length yc]] w' (PostV w' ((verS d r t f ps qs).getD []) (errV (verS d r t f ps qs)))) := Lib.hid fun d xa xc ya yc w' k h1 h2 h3 h4 h5 h6 =>
          verify_any (G.ex k) d r t f ps qs xa ya xc yc w' (ex_refl _) h1 h2 h3 h4 h5 h6
        have HVd : Hid (∀ d w', Ex w w' → Calls Tryd.prog 50 #[.agg (rowB 32 (dF d)), .agg (RC r), .agg #[I t, I f, .slice pa ps.length pc, .slice qa qs.length qc]] w' (PostVd (verS d r t f ps qs) w')) := Lib.hid fun d w' k =>
          docver_any d r t f ps qs pa qa pc qc w' hpc hpm hqc hqm (hps.ex k) (hqs.ex k)
        have HTp : ∀ xa xc ya yc w', Ex w w' → ps.length ≤ xc → xc ≤ maxLen → qs.length ≤ yc → yc ≤ maxLen → SlP w' xa ps → SlD w' ya qs → Calls Tryd.prog 47 #[.agg #[I t, I f, .slice xa ps.length xc, .slice ya qs.length yc]] w' (Post w' (.tuple #[.agg (rowB 32 (dF ((topS t f ps qs).getD zeroD))), I (errT (topS t f ps qs))])) := fun xa xc ya yc w' k h1 h2 h3 h4 h5 h6 =>
          top_any (G.ex k) t f ps qs xa ya xc yc w' (ex_refl _) h1 h2 h3 h4 h5 h6
        have HTd : ∀ w', Ex w w' → Calls Tryd.prog 48 #[.agg #[I t, I f, .slice pa ps.length pc, .slice qa qs.length qc]] w' (PostTd (topS t f ps qs) w') := fun w' k =>
          doctopS_any t f ps qs pa qa pc qc w' hpc hpm hqc hqm (hps.ex k) (hqs.ex k)
        have HQS : Hid (∀ w', Ex w w' → SlD w' qa qs) := Lib.hid fun w' k => hqs.ex k
        cases ho : topS t f ps qs with
        | none =>
          rw [ho] at HTp HTd
          simp only [Option.getD_none, errT, Option.isSome_none, Bool.false_eq_true, if_false] at HTp
          rw [row_zero] at HTp
          have HTn := fun w' k => (HTd w' k).mono fun e w2 => postTd_none
          cases qa with
          | none =>
            obtain rfl := hqa rfl
            obtain rfl : qs = [] := List.eq_nil_of_length_eq_zero (by omega)
            exact sv_nn root r.lo r.hi r.op t f ps [] pa _ pc w (Lib.hid rfl) HQS HW HO HOR HCp zeroD (Lib.hid HTp) (Lib.hid HTn) _ HVe HVd HSm
          | some ad => exact sv_sn root r.lo r.hi r.op t f ps qs pa ad _ _ pc qc w (by omega) hqc hqm (Lib.hid rfl) HQS HW HO HOR HCp zeroD (Lib.hid HTp) (Lib.hid HTn) _ HVe HVd HSm
        | some d =>
          rw [ho] at HTp HTd
          simp only [Option.getD_some, errT, Option.isSome_some, if_true] at HTp
          have HTs := fun w' k => (HTd w' k).mono fun e w2 => postTd_some
          cases qa with
          | none =>
            obtain rfl := hqa rfl
            obtain rfl : qs = [] := List.eq_nil_of_length_eq_zero (by omega)
            exact sv_ns root r.lo r.hi r.op t f ps [] pa _ pc w (Lib.hid rfl) HQS HW HO HOR HCp d (Lib.hid HTp) (Lib.hid HTs) _ HVe HVd HSm
          | some ad => exact sv_ss root r.lo r.hi r.op t f ps qs pa ad _ _ pc qc w (by omega) hqc hqm (Lib.hid rfl) HQS HW HO HOR HCp d (Lib.hid HTp) (Lib.hid HTs) _ HVe HVd HSm
end Go.Proofs.YtbobamifpjlmiaaDoor
