import Derived.Test.YtabjamkkhlbajaaDoorMWlEq
import Derived.Laws.StructEq
import Derived.ChangeKeysEq

/- The log: claims held against the empty one. -/
set_option linter.unusedSimpArgs false
set_option linter.unusedVariables false
set_option linter.unnecessarySimpa false
set_option maxRecDepth 20000
namespace Go.Proofs.YtabjamkkhlbajaaDoor
open Go.RowKit
abbrev zRow : Array Value := #[.int .u32 0, .int .u32 0, .int .u32 0, .int .u32 0, .int .u32 0, .int .u8 0, .int .u8 0, .int .u8 0, .int .u8 0]
theorem eq_zero_zero (w : World) : (binOp .eql 62 (.agg zRow) (.agg zRow)).run Tryd.prog w = .ok (.bool true) w := by kernel_rfl
theorem eq_zero_ne (t n s u a : Int) (f : Nat → UInt8) (ht : t ≠ 0) (w : World) : (binOp .eql 62 (.agg #[.int .u32 t, .int .u32 n, .int .u32 s, .int .u32 u, .int .u32 a, B (f 0), B (f 1), B (f 2), B (f 3)]) (.agg zRow)).run Tryd.prog w = .ok (.bool false) w := by
  have hS : Tryd.prog.underlying 62 = some (.struct (Tryd.prog.fieldsOf 62)) := by kernel_rfl
  have hp : Tryd.prog.stoodInHeld 62 = false := by kernel_rfl
  have hd : ((Tryd.prog.fieldsOf 62).toList.head?.map fun f => (f.name, f.type, f.offset)) = some ("turn", 36, 0) := by kernel_rfl
  have he : Tryd.prog.plainKey 36 = true := by kernel_rfl
  rw [run_eql_struct, show (10000 : Nat) = 9999 + 1 from rfl, run_equalIn_agg w 9999 _ _ _ hS hp]
  generalize (Tryd.prog.fieldsOf 62).toList = l at hd ⊢
  cases l with
  | nil => cases hd
  | cons f0 fs =>
    simp only [List.head?_cons, Option.map_some, Option.some.injEq, Prod.mk.injEq] at hd
    obtain ⟨h1, h2, h3⟩ := hd
    have p1 : ∀ w, (part 36 (#[.int .u32 t, .int .u32 n, .int .u32 s, .int .u32 u, .int .u32 a, B (f 0), B (f 1), B (f 2), B (f 3)] : Array Value) 0).run Tryd.prog w = .ok (.int .u32 t) w := fun w => run_part_plain w he rfl
    have p2 : ∀ w, (part 36 zRow 0).run Tryd.prog w = .ok (.int .u32 0) w := fun w => run_part_plain w he rfl
    have e1 : (t == 0) = false := beq_eq_false_iff_ne.2 ht
    unfold Op.eqFields
    rw [h1, h2, h3, if_pos (by decide)]
    simp only [Sem.run_bind, p1, p2, Result.andThen_ok, run_equalIn_int _ 9998 36 .u32 .u32 t 0 Tryd.underlying36, e1, Bool.not_false, if_true, Sem.run_pure]
noncomputable def eqRawC (xs : Array Value) (w : World) : Result Value := (binOp .eql 62 (.agg xs) (.agg zRow)).run Tryd.prog w
@[go_sem high] theorem eq_claim_zero (c : Cm) (w : World) : (binOp .eql 62 (.agg (CR c)) (.agg zRow)).run Tryd.prog w = if (c.turn : Int) = 0 then eqRawC (CR c) w else .ok (.bool false) w := by
  split
  · rfl
  · rename_i h
    exact eq_zero_ne _ _ _ _ _ (gF c.mark) h w
@[go_sem high] theorem eq_zero_zero' (w : World) : (binOp .eql 62 (.agg zRow) (.agg zRow)).run Tryd.prog w = .ok (.bool true) w := eq_zero_zero w
@[go_sem high] theorem eql_mrk (f g : Nat → UInt8) (w : World) : (binOp .eql 60 (.agg (rowB 4 f)) (.agg (rowB 4 g))).run Tryd.prog w = .ok (.bool (eqF f g 4)) w := eqlB Tryd.underlying60 Tryd.underlying5 (by kernel_rfl) f g w
@[go_sem high] theorem neq_mrk (f g : Nat → UInt8) (w : World) : (binOp .neq 60 (.agg (rowB 4 f)) (.agg (rowB 4 g))).run Tryd.prog w = .ok (.bool (!eqF f g 4)) w := neqB Tryd.underlying60 Tryd.underlying5 (by kernel_rfl) f g w
def build12Run (P : Program) (t : TypeId) (v1 v2 : Value) (w : World) : Result Next := ((Instr.build t #[(1, v1), (2, v2)]).run P w).andThen fun x w' => .ok (.value x) w'
@[go_sem ↓ high] theorem run_build12_pre {P : Program} (ρ : Operand → Value) (d : Option Tmp) (t : TypeId) (x1 x2 : Operand) (ty : TypeId) (pos : String) (aft : Array Edge) (g : Option (Nat × Bool)) (w : World) :
    Sem.run P (execOp ρ ⟨d, .build t #[(1, x1), (2, x2)], ty, pos, aft, g⟩) w = build12Run P t (ρ x1) (ρ x2) w := by
  simp only [execOp, Sem.run_bind, Sem.run_pure, build12Run, List.map_toArray, List.map_cons, List.map_nil]
@[go_sem low] theorem build12Run_other {P : Program} (t : TypeId) (v1 v2 : Value) (w : World) : build12Run P t v1 v2 w = ((Instr.build t #[(1, v1), (2, v2)]).run P w).andThen fun x w' => .ok (.value x) w' := rfl
theorem built_wal (q n c : Nat) (a : Option Addr) : Tryd.prog.built 64 [(1, PT q), (2, .slice a n c)] = some (WR zeroC q (.slice a n c) false) := by kernel_rfl
@[go_sem] theorem build12_wal (q n c : Nat) (a : Option Addr) (w : World) : build12Run Tryd.prog 64 (PT q) (.slice a n c) w = .ok (.value (.agg (WR zeroC q (.slice a n c) false))) w := by
  unfold build12Run
  rw [run_build w _ _ _ (built_wal q n c a)]; rfl
theorem whole_facts : ∀ (f : Nat) (l : List Bk) (sh : List By), wholeP f l = some sh → sh.length ≤ l.length ∧ ∀ b ∈ sh, b.length ≤ 50000
  | f, [], sh, h => by
    have : sh = [] := by cases f <;> (cases h; rfl)
    rw [this]; exact ⟨Nat.le_refl _, by simp⟩
  | 0, b :: r, sh, h => by cases h
  | f + 1, b :: r, sh, h => by
    have hp := secs_pos (num4 (blkL b))
    unfold wholeP at h
    split at h
    · cases h
    · rename_i hn
      split at h
      · rw [Option.map_eq_some_iff] at h
        obtain ⟨sh2, h2, rfl⟩ := h
        obtain ⟨q1, q2⟩ := whole_facts f _ _ h2
        rw [List.length_drop, List.length_cons] at q1
        refine ⟨by rw [List.length_cons, List.length_cons]; omega, fun x hx => ?_⟩
        rcases List.mem_cons.1 hx with rfl | hx
        · rw [List.length_take]
          have : num4 (blkL b) ≤ 50000 := Nat.le_of_not_lt fun e => hn (Or.inl e)
          omega
        · exact q2 x hx
      · cases h
theorem wholeW_facts {l : List Bk} {sh : List By} (h : wholeW l = some sh) : sh.length ≤ l.length ∧ ∀ b ∈ sh, b.length ≤ 50000 := whole_facts _ _ _ h
/-- The better of two heads. -/
def bestK (c : Cm) (ok : Bool) (x : Cm) : Cm := if ok = true ∧ c.turn < x.turn then x else c
def headK (sz : Nat) (l : List Bk) : Nat → Cm
  | 0 => zeroC
  | k + 1 => bestK (headK sz l k) (rdB sz k (l.getD k zeroB)) (cmOf (l.getD k zeroB))
/-- What is known of a head that is right. -/
structure CmR (c : Cm) : Prop where
  t1 : 1 ≤ c.turn
  t2 : c.turn ≤ 1073741824
  n : c.n ≤ 1000
  s : c.side ≤ 1
  un : c.used ≤ c.n
  a1 : 1 ≤ c.all
  a2 : c.all < 4294967296
  m : c.mark.length = 4
theorem cmOf_mark (s : Bk) : (cmOf s).mark.length = 4 := by
  show (((blkL s).drop 28).take 4).length = 4
  rw [List.length_take, List.length_drop, blkL_len]; rfl
theorem rdB_right {sz at_ : Nat} {s : Bk} (h : rdB sz at_ s = true) : CmR (cmOf s) := by
  unfold rdB rightC mayB at h
  simp only [Bool.and_eq_true, decide_eq_true_eq] at h
  obtain ⟨⟨⟨⟨⟨⟨⟨h1, h2⟩, h3⟩, ⟨h4, h5⟩, h6⟩, h7⟩, h8⟩, h9⟩, h10⟩ := h
  exact ⟨h1, h2, h5, h7, h8, h9, num4_lt _, cmOf_mark s⟩
theorem headK_two {sz : Nat} {a b : Bk} : (headsC HW sz [a, b] = none ∧ headK sz [a, b] 2 = zeroC) ∨ (∃ c, headsC HW sz [a, b] = some c ∧ headK sz [a, b] 2 = c ∧ CmR c) := by
  show (bestC (readC HW sz 0 a) (readC HW sz 1 b) = none ∧ bestK (bestK zeroC (rdB sz 0 a) (cmOf a)) (rdB sz 1 b) (cmOf b) = zeroC) ∨ (∃ c, bestC (readC HW sz 0 a) (readC HW sz 1 b) = some c ∧ bestK (bestK zeroC (rdB sz 0 a) (cmOf a)) (rdB sz 1 b) (cmOf b) = c ∧ CmR c)
  rw [readC_rdB, readC_rdB]
  have hz : zeroC.turn = 0 := rfl
  by_cases h0 : rdB sz 0 a = true
  · have r0 := rdB_right h0
    have t0 := r0.t1
    have e0 : bestK zeroC (rdB sz 0 a) (cmOf a) = cmOf a := by unfold bestK; rw [if_pos ⟨h0, by omega⟩]
    rw [e0, if_pos h0]
    by_cases h1 : rdB sz 1 b = true
    · have r1 := rdB_right h1
      rw [if_pos h1]
      right
      by_cases hlt : (cmOf a).turn < (cmOf b).turn
      · exact ⟨cmOf b, by show (if _ then _ else _) = _; rw [if_pos hlt], by unfold bestK; rw [if_pos ⟨h1, hlt⟩], r1⟩
      · exact ⟨cmOf a, by show (if _ then _ else _) = _; rw [if_neg hlt], by unfold bestK; rw [if_neg (fun h => hlt h.2)], r0⟩
    · rw [if_neg h1]
      exact Or.inr ⟨cmOf a, rfl, by unfold bestK; rw [if_neg (fun h => h1 h.1)], r0⟩
  · have e0 : bestK zeroC (rdB sz 0 a) (cmOf a) = zeroC := by unfold bestK; rw [if_neg (fun h => h0 h.1)]
    rw [e0, if_neg h0]
    by_cases h1 : rdB sz 1 b = true
    · have r1 := rdB_right h1
      have t1 := r1.t1
      rw [if_pos h1]
      exact Or.inr ⟨cmOf b, rfl, by unfold bestK; rw [if_pos ⟨h1, by omega⟩], r1⟩
    · rw [if_neg h1]
      exact Or.inl ⟨rfl, by unfold bestK; rw [if_neg (fun h => h1 h.1)]⟩
end Go.Proofs.YtabjamkkhlbajaaDoor

/- The log: Open. -/
set_option linter.unusedSimpArgs false
set_option linter.unusedVariables false
set_option linter.unnecessarySimpa false
set_option maxRecDepth 20000
namespace Go.Proofs.YtabjamkkhlbajaaDoor
open Go.RowKit
/-- What opening a log leads to. -/
def PostOp (w : World) (L : Loc) (r : Dk × Option Wl × Int) (e : Ending) (w' : World) : Prop :=
  ∃ v L', e = .returned (.tuple #[v, I r.2.2]) ∧ Dv L w L' w' ∧ DkAt w' L' r.1 ∧ match r.2.1 with
    | none => v = .pointer none
    | some wl => ∃ p, v = PT p ∧ LgM w' p L' r.1 wl ∧ w.heap.size ≤ p
theorem PostOp.err {w : World} {L L' : Loc} {d : Dk} {e : Int} {w' : World} (h : DkAt w' L' d) (k : Dv L w L' w') : PostOp w L (d, none, e) (.returned (.tuple #[.pointer none, I e])) w' := ⟨_, L', rfl, k, h, rfl⟩
theorem DkAt.frm {w w' : World} {L : Loc} {d : Dk} {F : Nat → Prop} (h : DkAt w L d) (k : Frm F w w') (hF : ∀ b, L.own b → ¬ F b) : DkAt w' L d := by
  obtain ⟨qv, hM⟩ := h.out
  exact ⟨qv, hM.keep fun b hb => k.same b (hM.lt hb) (hF b hb)⟩
theorem wr_claim9 (c c2 : Cm) : spliceA (CR c) 0 (CR c2).toList = CR c2 := by kernel_rfl
theorem Frm.ky {w w' : World} {g : Nat} {cs : Array Value} {t : TypeId} {fr : Nat × Nat} (h : Frm (fun b => b = g) w w') (hb : w.heap[g]? = some (.cells cs t fr)) (h1 : t ≠ 5) (h2 : t ≠ 22) : Ky w w' := fun g2 cs2 t2 fr2 hg ht => by
  refine (h.same g2 (Array.getElem?_eq_some_iff.1 hg).1 fun e => ?_).trans hg
  subst e
  rw [hb] at hg
  cases hg
  exact ht.elim h1 h2
theorem Wv.dv {p : Nat} {L L' : Loc} {w w' : World} (h : Wv p L w L' w') (hp : w.heap.size ≤ p) : Dv L w L' w' :=
  ⟨h.fr.os, h.fr.tape, h.fr.output, h.fr.size, fun b hb ho => h.fr.same b hb fun e => e.elim (fun e => by omega) ho, h.pp, h.hh, h.qq⟩
theorem mark_zero : (#[.int .u8 0, .int .u8 0, .int .u8 0, .int .u8 0] : Array Value) = rowB 4 (gF (markL HW [])) := by kernel_rfl
set_option maxHeartbeats 1000000 in
theorem open_any {w0 w : World} (G : Glob w0) (k0 : Ex w0 w) {L : Loc} {d : Dk} (h : DkAt w L d) (ho : ∀ x, L.own x → w0.heap.size ≤ x) (hops : d.ops + 4000 < 1000000000) (hq : d.qu.length + 2000 < 1000000) :
    Calls Tryd.prog 9 #[PT L.p] w (PostOp w L (openD HW d)) := by
  have HR1 : Hid (Calls Tryd.prog 40 #[PT L.p, .int .i64 0, .int .i64 2] w (PostRs w L (readsN d 0 2))) := Lib.hid (reads_any h 0 2 (by omega) (by omega) (by omega))
  obtain ⟨ro1, ro2, ro3⟩ := reads_ops 2 d 0
  have hln := reads_len 2 d 0
  unfold openD
  obtain ⟨r1, hr1⟩ : ∃ r, readsN d 0 2 = r := ⟨_, rfl⟩
  rw [hr1] at HR1 ro1 ro2 ro3 hln ⊢
  obtain ⟨d1, l1, e1⟩ := r1
  dsimp only at ro1 ro2 ro3 hln ⊢
  have HD0 := Lib.hid h
  clear hr1 h
  by_cases he : e1 = 0
  · rw [if_pos he]
    subst he
    have hln := hln rfl
    obtain ⟨s0, s1, rfl⟩ : ∃ a b, l1 = [a, b] := by
      match l1, hln with
      | [a, b], _ => exact ⟨a, b, rfl⟩
    clear hln
    have Ho := Lib.hid ho
    rw [← ro3] at hq
    have hops1 : d1.ops + 3000 < 1000000000 := by omega
    have hsz := Lib.hid ro2
    rw [← ro2]
    clear ro1 ro2 ro3 hops ho
    go_enter Tryd.func9, Tryd.ntmps9
    go_wp2_with (go_at_call 40; (with_reducible refine HR1.out.mono ?_); rintro e w2 ⟨lv, L2, rfl, hD2, hV2, hO2, hG2⟩; obtain ⟨la, lc, rfl, _⟩ := own_form9 hO2; replace hD2 := Lib.hid hD2; replace hV2 := Lib.hid hV2; replace hO2 := Lib.hid hO2; replace hG2 := Lib.hid hG2)
    refine wp_worldW fun C hC => ?_
    have kC : Ex w2 C := by rw [← hC]; exact (by (try show Ex _ _); with_reducible repeat (first | exact ex_refl _ | assumption | refine ex_drewL ?_ | refine ex_appR ?_ _ | refine ex_wx ?_ _ | refine ex_drew ?_ | refine ex_alloc ?_ _))
    have b6 : C.heap[w2.heap.size]? = some (.cells (CR zeroC) 62 (0, 0)) := by rw [← hC, zeroC_row]; exact ex_block (w := w2.alloc (.cells zRow 62)) (by (try show Ex _ _); with_reducible repeat (first | exact ex_refl _ | assumption | refine ex_drewL ?_ | refine ex_appR ?_ _ | refine ex_wx ?_ _ | refine ex_drew ?_ | refine ex_alloc ?_ _)) (heap_alloc_new _ _)
    clear hC
    obtain ⟨g6, hg6⟩ : ∃ g, w2.heap.size = g := ⟨_, rfl⟩
    rw [hg6] at b6 ⊢
    have n26 : ¬ L2.own g6 := fun e => by have := hD2.out.lt e; omega
    have HDC := Lib.hid (hD2.out.ex kC)
    have HVC := Lib.hid (hV2.out.grow kC)
    have HOC := Lib.hid (owns_ex hO2.out kC)
    have k0C : Hid (Ex w0 C) := Lib.hid (ex_of_below ((ex_below k0).trans (HVC.out.below (ex_size k0) Ho.out)))
    have hgl : Hid (∀ g, (Value.slice la 2 lc).ownBlock = some g → g ≠ g6) := Lib.hid fun g hg => by have := (World.ownsRow.lt hO2.out g hg).2; omega
    have hw6 : w.heap.size ≤ g6 := by rw [← hg6]; exact hV2.out.size
    clear kC hg6 hD2 hV2 hO2 hG2
    have b6' := Lib.hid b6
    have zC6 := (Array.getElem?_eq_some_iff.1 b6).1
    clear b6
    go_loopw [30] (fun i W => ∃ k : Nat, k ≤ 2 ∧ i = I k ∧ Hid (W.heap[g6]? = some (.cells (CR (headK d1.has.length [s0, s1] k)) 62 (0, 0))) ∧ Hid (Frm (fun b => b = g6) C W)) (fun i _ => 2 - (intOf i).toNat)
    case atStart => exact ⟨0, by omega, rfl, b6', Lib.hid (Frm.refl _ _)⟩
    case round =>
      obtain ⟨k, hk, rfl, HB, HF⟩ := hrel
      by_cases hlt : k < 2
      · have hkn : (k : Int) < 2 := by omega
        obtain ⟨y, hy⟩ : ∃ y, [s0, s1][k]? = some y := ⟨_, List.getElem?_eq_getElem (by simpa using hlt)⟩
        have hOw : wr.ownsRow w.heap.size 75 64 (.slice la 2 lc) 2 ([s0, s1].flatMap KK) := owns_same HOC.out fun g hg => HF.out.same g (World.ownsRow.lt HOC.out g hg).2 (hgl.out g hg)
        obtain ⟨gl, cap, cur, hvl, _⟩ := own_block hOw (by omega) (by omega)
        obtain ⟨rfl, rfl⟩ : la = some ⟨gl, 0, none⟩ ∧ lc = cap := by simpa using hvl
        have c1 := (own_at KK_len hOw hy).1
        rw [KK_back] at c1
        have zl := (World.ownsRow.lt hOw gl rfl).2
        have hDw := HDC.out.frm HF.out fun b hb e => n26 (by rw [← e]; exact hb)
        have k0w : Ex w0 wr := ex_of_below ((ex_below k0C.out).trans (HF.out.below (ex_size k0C.out) fun b e => by rw [e]; exact Nat.le_trans (ex_size k0) hw6))
        have HRd : Hid (∀ w', Ex wr w' → Calls Tryd.prog 41 #[PT L.p, I k, .agg (rowB 64 (bkF y))] w' (Post w' (.tuple #[.agg (CR (cmOf y)), .bool (rdB d1.has.length k y)]))) := Lib.hid fun w' x => by
          have := readw_any G (ex_trans k0w x) (hDw.ex x) k (by omega) y
          rwa [HVC.out.pp] at this
        have hyd : [s0, s1].getD k zeroB = y := by rw [List.getD_eq_getElem?_getD, hy]; rfl
        have hHK : headK d1.has.length [s0, s1] (k + 1) = bestK (headK d1.has.length [s0, s1] k) (rdB d1.has.length k y) (cmOf y) := by show bestK _ (rdB _ k ([s0, s1].getD k zeroB)) (cmOf ([s0, s1].getD k zeroB)) = _; rw [hyd]
        have HHK := Lib.hid hHK
        obtain ⟨ck, hck⟩ : ∃ ck, headK d1.has.length [s0, s1] k = ck := ⟨_, rfl⟩
        rw [hck] at HB HHK
        obtain ⟨x, hx⟩ : ∃ x, cmOf y = x := ⟨_, rfl⟩
        rw [hx] at HRd HHK
        obtain ⟨rd, hrd⟩ : ∃ rd, rdB d1.has.length k y = rd := ⟨_, rfl⟩
        rw [hrd] at HRd HHK
        obtain ⟨n6, f6, z6⟩ := block_cellsF (n := 9) HB.out rfl
        have q6 := (block_cellF (o := 0) (v := U4 ck.turn) HB.out rfl).1
        have h6 := setCells_block g6 62 (0, 0) (CR x).toList 0 wr _ HB.out
        rw [wr_claim9] at h6
        replace h6 := Lib.hid h6
        generalize bkF y = fy at *
        have hwr := HF.out.size
        clear hvl hOw hDw k0w hHK hck hx hrd hy hyd
        cases rd with
        | false =>
          go_wp2_with (go_at_call 41; (with_reducible refine (HRd.out _ (by (try show Ex _ _); with_reducible repeat (first | exact ex_refl _ | assumption | refine ex_drewL ?_ | refine ex_appR ?_ _ | refine ex_wx ?_ _ | refine ex_drew ?_ | refine ex_alloc ?_ _))).mono ?_); rintro e w4 ⟨rfl, X4, rfl⟩)
          refine ⟨⟨k + 1, by omega, by go_num, Lib.hid (by rw [HHK.out]; exact ex_block (by (try show Ex _ _); with_reducible repeat (first | exact ex_refl _ | assumption | refine ex_drewL ?_ | refine ex_appR ?_ _ | refine ex_wx ?_ _ | refine ex_drew ?_ | refine ex_alloc ?_ _)) HB.out), Lib.hid (HF.out.trans (Frm.ex (by (try show Ex _ _); with_reducible repeat (first | exact ex_refl _ | assumption | refine ex_drewL ?_ | refine ex_appR ?_ _ | refine ex_wx ?_ _ | refine ex_drew ?_ | refine ex_alloc ?_ _))))⟩, by simp [intOf]; omega⟩
        | true =>
          by_cases hlx : ck.turn < x.turn
          · have t1 : decide ((ck.turn : Int) < x.turn) = true := decide_eq_true (by omega)
            go_wp2_with (go_at_call 41; (with_reducible refine (HRd.out _ (by (try show Ex _ _); with_reducible repeat (first | exact ex_refl _ | assumption | refine ex_drewL ?_ | refine ex_appR ?_ _ | refine ex_wx ?_ _ | refine ex_drew ?_ | refine ex_alloc ?_ _))).mono ?_); rintro e w4 ⟨rfl, X4, rfl⟩)
            refine ⟨⟨k + 1, by omega, by go_num, Lib.hid (by rw [HHK.out]; unfold bestK; rw [if_pos ⟨rfl, hlx⟩]; exact ex_block (w := wr.setCells g6 0 (CR x).toList) (by (try show Ex _ _); with_reducible repeat (first | exact ex_refl _ | assumption | refine ex_drewL ?_ | refine ex_appR ?_ _ | refine ex_wx ?_ _ | refine ex_drew ?_ | refine ex_alloc ?_ _)) h6.out), Lib.hid ((HF.out.sets (b := g6) rfl 0 (CR x).toList).trans (Frm.ex (by (try show Ex _ _); with_reducible repeat (first | exact ex_refl _ | assumption | refine ex_drewL ?_ | refine ex_appR ?_ _ | refine ex_wx ?_ _ | refine ex_drew ?_ | refine ex_alloc ?_ _))))⟩, by simp [intOf]; omega⟩
          · have t1 : decide ((ck.turn : Int) < x.turn) = false := decide_eq_false (by omega)
            go_wp2_with (go_at_call 41; (with_reducible refine (HRd.out _ (by (try show Ex _ _); with_reducible repeat (first | exact ex_refl _ | assumption | refine ex_drewL ?_ | refine ex_appR ?_ _ | refine ex_wx ?_ _ | refine ex_drew ?_ | refine ex_alloc ?_ _))).mono ?_); rintro e w4 ⟨rfl, X4, rfl⟩)
            refine ⟨⟨k + 1, by omega, by go_num, Lib.hid (by rw [HHK.out]; unfold bestK; rw [if_neg (fun h => hlx h.2)]; exact ex_block (by (try show Ex _ _); with_reducible repeat (first | exact ex_refl _ | assumption | refine ex_drewL ?_ | refine ex_appR ?_ _ | refine ex_wx ?_ _ | refine ex_drew ?_ | refine ex_alloc ?_ _)) HB.out), Lib.hid (HF.out.trans (Frm.ex (by (try show Ex _ _); with_reducible repeat (first | exact ex_refl _ | assumption | refine ex_drewL ?_ | refine ex_appR ?_ _ | refine ex_wx ?_ _ | refine ex_drew ?_ | refine ex_alloc ?_ _))))⟩, by simp [intOf]; omega⟩
      · obtain rfl : k = 2 := by omega
        have hDw := HDC.out.frm HF.out fun b hb e => n26 (by rw [← e]; exact hb)
        have hVw := HVC.out.frm HF.out fun b e => by rw [e]; exact hw6
        have k0w : Ex w0 wr := ex_of_below ((ex_below k0C.out).trans (HF.out.below (ex_size k0C.out) fun b e => by rw [e]; exact Nat.le_trans (ex_size k0) hw6))
        clear hlt hk hgl HOC k0C HDC
        rcases headK_two (sz := d1.has.length) (a := s0) (b := s1) with ⟨hh1, hh2⟩ | ⟨c, hh1, hh2, hcR⟩
        · have hb := HB.out
          rw [hh2, zeroC_row] at hb
          obtain ⟨n6, f6, z6⟩ := block_cellsF (n := 9) hb rfl
          have HDw := Lib.hid hDw
          have HVw := Lib.hid hVw
          have Hh1 := Lib.hid hh1
          clear hb hh2 hDw hVw k0w HB hh1
          go_wp2
          go_ret2
          rw [Hh1.out]
          exact PostOp.err HDw.out HVw.out
        · have hb := HB.out
          rw [hh2] at hb
          have HBc := Lib.hid hb
          obtain ⟨n6, f6, z6⟩ := block_cellsF (n := 9) hb rfl
          have q2 := (block_cellF (o := 2) (v := U4 c.side) hb rfl).1
          have q3 := (block_cellF (o := 3) (v := U4 c.used) hb rfl).1
          obtain ⟨t1, t2, cn, cs, cu, ca1, ca2, cm⟩ := hcR
          have tz : ¬ (c.turn : Int) = 0 := by omega
          have Hh1 := Lib.hid hh1
          obtain ⟨P1, hP1⟩ : ∃ P1 : Nat → Prop, P1 = L2.own := ⟨_, rfl⟩
          have nw6 : ¬ P1 g6 := by rw [hP1]; exact n26
          have HP1 : Hid (∀ x, ¬ P1 x → ¬ L2.own x) := Lib.hid (by rw [hP1]; exact fun x hx => hx)
          obtain ⟨a0, ha0⟩ : ∃ a0, 2 + (c.side * c.n + 0) = a0 := ⟨_, rfl⟩
          have ha0b : a0 ≤ 1000000 := by
            have : c.side * c.n ≤ 1000 := by rcases (show c.side = 0 ∨ c.side = 1 by omega) with e | e <;> rw [e] <;> omega
            omega
          have HAt : Hid (∀ w', Calls Tryd.prog 42 #[.agg (CR c), U4 c.side, .int .u32 0] w' (Post w' (I (a0 : Int)))) := Lib.hid fun w' => by
            have := at_any c c.side 0 cs cn (by omega) w'
            rwa [ha0] at this
          have HR2 : Hid (∀ w', Ex wr w' → Calls Tryd.prog 40 #[PT L.p, I a0, I c.used] w' (PostRs w' L2 (readsN d1 a0 c.used))) := Lib.hid fun w' x => by
            have := reads_any (hDw.ex x) a0 c.used ha0b (by omega) (by omega)
            rwa [hVw.pp] at this
          obtain ⟨ro1, ro2, ro3⟩ := reads_ops c.used d1 (a0 : Int)
          have hln := reads_len c.used d1 (a0 : Int)
          have hres : open2 HW d1 (some c) = if (readsN d1 (a0 : Int) c.used).2.2 = 0 then open3 HW (readsN d1 (a0 : Int) c.used).1 c (goodC HW c (readsN d1 (a0 : Int) c.used).2.1) else ((readsN d1 (a0 : Int) c.used).1, none, (readsN d1 (a0 : Int) c.used).2.2) := by
            show (if (readsN d1 ((2 + c.side * c.n : Nat) : Int) c.used).2.2 = 0 then _ else _) = _
            rw [show 2 + c.side * c.n = a0 by omega]
          obtain ⟨r2, hr2⟩ : ∃ r2, readsN d1 (a0 : Int) c.used = r2 := ⟨_, rfl⟩
          rw [hr2] at HR2 ro1 ro2 ro3 hln hres
          obtain ⟨d2, l2, e2⟩ := r2
          dsimp only at ro1 ro2 ro3 hln hres
          have HDw := Lib.hid hDw
          have HVw := Lib.hid hVw
          have K0w := Lib.hid k0w
          clear hb hh2 hDw hVw k0w HB hh1 hP1 ha0 hr2
          have HEx : Hid (∀ W, Ex wr W → ∀ k, k < wr.heap.size → ¬ P1 k → W.heap[k]? = wr.heap[k]?) := Lib.hid fun W kW k h1 _ => (ex_below kW).block k h1
          have HPo : Hid (∀ (W : World) w4 L3, Ex wr W → Dv L2 W L3 w4 → ∀ k, k < wr.heap.size → ¬ P1 k → w4.heap[k]? = wr.heap[k]?) := Lib.hid fun W w4 L2 kW hv k h1 h2 => (hv.same k (Nat.lt_of_lt_of_le h1 (ex_size kW)) (HP1.out k h2)).trans ((ex_below kW).block k h1)
          go_wp2
          refine wp_region_forkH (fun w' => ∃ X, w' = kp wr P1 X) (.look 0 (.look 1 (.look 2 (.look 3 (.look 5 (.look 6 (.look 7 (.eff 4 (.eff 8 (.look 9 (.look 10 (.look 11 (.look 12 (.look 13 .done)))))))))))))) (⟨_, kp_of (fun _ _ _ => rfl)⟩) (by kernel_rfl) (by kernel_rfl) (fun _ _ d _ _ h => by cases d <;> exact h) ?_
          simp only [Fk.ops, nth]
          repeat (first | ((with_reducible refine wpForkH_look ?_); go_big_quiet_step (fail); (try (with_reducible refine wpQuiet_nil ?_))) | (with_reducible refine wpForkH_eff ?_) | ((with_reducible refine effH_F ?_ ?_); (focus rfl); go_simp) | ((with_reducible refine effH_T ?_ ?_); (focus rfl); (try dsimp only); go_wp2_with (first | (go_at_call 42; (with_reducible refine (HAt.out _).mono ?_); rintro e w4 ⟨rfl, X4, rfl⟩) | (go_at_call 40; (with_reducible refine (HR2.out _ (by (try show Ex _ _); with_reducible repeat (first | exact ex_refl _ | assumption | refine ex_drewL ?_ | refine ex_appR ?_ _ | refine ex_wx ?_ _ | refine ex_drew ?_ | refine ex_alloc ?_ _))).mono ?_); rintro e w5 ⟨l2v, L3, rfl, hD5, hV5, hO5, hG5⟩; obtain ⟨l2a, l2c, rfl, _⟩ := own_form9 hO5; replace hD5 := Lib.hid hD5; replace hV5 := Lib.hid hV5; replace hO5 := Lib.hid hO5; replace hG5 := Lib.hid hG5)); (first | done | refine mixQH_mk (⟨_, kp_of (by first | exact HPo.out _ _ _ (by (try show Ex _ _); with_reducible repeat (first | exact ex_refl _ | assumption | refine ex_drewL ?_ | refine ex_appR ?_ _ | refine ex_wx ?_ _ | refine ex_drew ?_ | refine ex_alloc ?_ _)) hV5.out | exact HEx.out _ (by (try show Ex _ _); with_reducible repeat (first | exact ex_refl _ | assumption | refine ex_drewL ?_ | refine ex_appR ?_ _ | refine ex_wx ?_ _ | refine ex_drew ?_ | refine ex_alloc ?_ _)))⟩) ?_)))
          all_goals (with_reducible refine wpForkH_nil ?_)
          have VT := Lib.hid ((HVw.out.grow (show Ex wr _ from (by (try show Ex _ _); with_reducible repeat (first | exact ex_refl _ | assumption | refine ex_drewL ?_ | refine ex_appR ?_ _ | refine ex_wx ?_ _ | refine ex_drew ?_ | refine ex_alloc ?_ _)))).trans hV5.out)
          have b65 := (HPo.out _ _ _ (show Ex wr _ from (by (try show Ex _ _); with_reducible repeat (first | exact ex_refl _ | assumption | refine ex_drewL ?_ | refine ex_appR ?_ _ | refine ex_wx ?_ _ | refine ex_drew ?_ | refine ex_alloc ?_ _))) hV5.out g6 z6 nw6).trans HBc.out
          have n36 : ¬ L3.own g6 := hV5.out.notown (by have := ex_size (show Ex wr (wx wr X4) from ⟨X4, rfl⟩); omega) (HP1.out _ nw6)
          have k05 : Hid (Ex w0 w5) := Lib.hid (ex_of_below ((ex_below k0).trans (VT.out.below (ex_size k0) Ho.out)))
          clear HAt HR2 HEx HPo n6 f6 z6 q2 q3 hV5 HBc nw6 HP1 n26 HVw HDw K0w HVC HF
          replace hres := Lib.hid hres
          by_cases he2 : e2 = 0
          · subst he2
            have hln2 := hln rfl
            clear hln
            have HWh : Hid (Calls Tryd.prog 43 #[.slice l2a l2.length l2c] w5 (PostWh w5 (wholeW l2))) := Lib.hid (whole_any l2 _ (SlV1.of_own KK_len (by omega) hO5.out) (by rw [hln2]; omega))
            obtain ⟨rw2, hrw⟩ : ∃ rw2, wholeW l2 = rw2 := ⟨_, rfl⟩
            rw [hrw] at HWh
            have Hrw := Lib.hid hrw
            replace hln2 := Lib.hid hln2
            clear hrw hO5 hG5
            go_wp2_with (go_at_call 43; (with_reducible refine HWh.out.mono ?_); rintro e w6 ⟨sv, ok, rfl, ⟨X6, rfl⟩, hok, hSh⟩; replace hok := Lib.hid hok; obtain ⟨sa, sc, rfl, _⟩ := hSh.form; have HSh := Lib.hid hSh.sh; clear hSh)
            obtain ⟨sh, hsh⟩ : ∃ sh, rw2.getD [] = sh := ⟨_, rfl⟩
            rw [hsh] at HSh ⊢
            replace hsh := Lib.hid hsh
            refine wp_worldW fun C2 hC2 => ?_
            have kC2 : Ex (wx w5 X6) C2 := by rw [← hC2]; exact (by (try show Ex _ _); with_reducible repeat (first | exact ex_refl _ | assumption | refine ex_drewL ?_ | refine ex_appR ?_ _ | refine ex_wx ?_ _ | refine ex_drew ?_ | refine ex_alloc ?_ _))
            have b13 : C2.heap[(wx w5 X6).heap.size]? = some (.cells (rowB 4 (gF (markL HW []))) 60 (0, 0)) := by rw [← hC2, ← mark_zero]; exact ex_block (w := (wx w5 X6).alloc (.cells #[.int .u8 0, .int .u8 0, .int .u8 0, .int .u8 0] 60)) (by (try show Ex _ _); with_reducible repeat (first | exact ex_refl _ | assumption | refine ex_drewL ?_ | refine ex_appR ?_ _ | refine ex_wx ?_ _ | refine ex_drew ?_ | refine ex_alloc ?_ _)) (heap_alloc_new _ _)
            clear hC2
            rw [wx_size] at b13
            obtain ⟨g13, hg13⟩ : ∃ g, w5.heap.size + X6.blocks.length = g := ⟨_, rfl⟩
            rw [hg13] at b13 ⊢
            have k5C : Ex w5 C2 := ex_trans ⟨X6, rfl⟩ kC2
            have z65 := (Array.getElem?_eq_some_iff.1 b65).1
            have h613 : g6 ≠ g13 := by omega
            have n313 : ¬ L3.own g13 := fun e => by have := hD5.out.lt e; omega
            have hSC := HSh.out.ky (Ky.ex kC2)
            have HSC := Lib.hid hSC
            have HB13 := Lib.hid b13
            have HB6C := Lib.hid (ex_block k5C b65)
            have HDC5 := Lib.hid (hD5.out.ex k5C)
            have HVC5 := Lib.hid (VT.out.grow k5C)
            have HKC5 := Lib.hid (ex_trans k05.out k5C)
            have hwC2 : w5.heap.size ≤ g13 := by omega
            have k05' := k05.out
            have hV05 := VT.out.size
            clear hg13 HSh b65 hD5 VT k05 kC2 k5C b13 HWh
            have hshf : sh.length ≤ 1000 ∧ ∀ b ∈ sh, b.length ≤ 50000 := by
              rw [← hsh.out]
              cases hw9 : rw2 with
              | none => exact ⟨by simp, by simp⟩
              | some s9 =>
                have q := wholeW_facts (Hrw.out.trans hw9)
                have := hln2.out
                exact ⟨by show s9.length ≤ 1000; omega, q.2⟩
            obtain ⟨hshl, hshb⟩ := hshf
            have Hshb := Lib.hid hshb
            obtain ⟨n, hn⟩ : ∃ n, sh.length = n := ⟨_, rfl⟩
            have Hn := Lib.hid hn
            rw [hn] at hshl hSC ⊢
            have hscb : n ≤ sc := by
              obtain ⟨_, _, hv9, q1, _, _, _⟩ := HSC.out.out
              obtain ⟨_, _, e9⟩ := Value.slice.inj hv9
              have := Hn.out
              omega
            clear hn hshb hSC
            go_loopw [77] (fun i W => ∃ k : Nat, k ≤ n ∧ i = I k ∧ Hid (W.heap[g13]? = some (.cells (rowB 4 (gF (markL HW (sh.take k)))) 60 (0, 0))) ∧ Hid (Frm (fun b => b = g13) C2 W)) (fun i _ => n - (intOf i).toNat)
            case atStart => exact ⟨0, by omega, rfl, Lib.hid (by rw [List.take_zero]; exact HB13.out), Lib.hid (Frm.refl _ _)⟩
            case round =>
              obtain ⟨w9, rfl⟩ : ∃ w9, w9 = wr := ⟨_, rfl⟩
              obtain ⟨k, hk, rfl, HBm, HFm⟩ := hrel
              have hky := Frm.ky HFm.out HB13.out (by decide) (by decide)
              have HSw := Lib.hid (HSC.out.ky hky)
              have hb := HBm.out
              obtain ⟨n13, f13, z13⟩ := block_cellsF (n := 4) hb (by simp)
              have hFs := HFm.out.size
              have k09 : Ex w0 w9 := ex_of_below ((ex_below HKC5.out).trans (HFm.out.below (ex_size HKC5.out) fun b e => by rw [e]; exact Nat.le_trans (ex_size k05') hwC2))
              by_cases hlt : k < n
              · have hsk : k < sh.length := by rw [Hn.out]; exact hlt
                have hS' := HSw.out
                rw [Hn.out] at hS'
                obtain ⟨gs, os, rfl, hgs, u, hu, htu⟩ := HSw.out.at (j := k) hsk
                obtain ⟨b, hbb⟩ : ∃ b, sh.getD k [] = b := ⟨_, rfl⟩
                rw [hbb] at htu
                have hbl : b.length ≤ 50000 := by
                  rw [← hbb, List.getD_eq_getElem?_getD, List.getElem?_eq_getElem hsk]
                  exact Hshb.out _ (List.getElem_mem hsk)
                obtain ⟨ua, uc, rfl, _⟩ := htu.out
                obtain ⟨mk, hmk⟩ : ∃ mk, markL HW (sh.take k) = mk := ⟨_, rfl⟩
                rw [hmk] at hb n13
                have hml : mk.length = 4 := by rw [← hmk]; exact mark_len HW_len _
                have hms : markL HW (sh.take (k + 1)) = HW (mk ++ b) := by
                  rw [← hmk, ← hbb]
                  unfold markL
                  rw [List.take_succ_eq_append_getElem hsk, List.foldl_append, List.getD_eq_getElem?_getD, List.getElem?_eq_getElem hsk]; rfl
                have HDg : Hid (∀ w' g, Ex w9 w' → w'.cell? ⟨g, 0, none⟩ = some (.slice (some ⟨g13, 0, none⟩) 4 4) → w'.cell? ⟨g, 1, none⟩ = some (.slice ua b.length uc) → Calls Tryd.prog 34 #[.slice (some ⟨g, 0, none⟩) 2 2] w' (Post w' (.agg (rowB 4 (gF (HW (mk ++ b))))))) := Lib.hid fun w' g x q1 q2 => by
                  have hb' := ex_block x hb
                  refine digest2_any G (ex_trans k09 x) q1 q2 ⟨_, 4, by rw [hml], by rw [hml]; omega, by decide, (fun e => by cases e), SlB.mk' (Array.getElem?_eq_some_iff.1 hb').1 fun j hj => ?_⟩ (htu.slt.ex x) (by rw [hml]; omega)
                  rw [hml] at hj
                  rw [Nat.zero_add, cell_of_row w' g13 j _ _ _ hb', rowB_get, if_pos hj]
                have h6 := setCells_block g13 60 (0, 0) (rowB 4 (gF (HW (mk ++ b)))).toList 0 w9 _ hb
                rw [spliceA_all _ _ (by simp), Array.toArray_toList] at h6
                have H6 : Hid ((w9.setCells g13 0 (rowB 4 (gF (HW (mk ++ b)))).toList).heap[g13]? = some (.cells (rowB 4 (gF (markL HW (sh.take (k + 1))))) 60 (0, 0))) := Lib.hid (by rw [hms]; exact h6)
                have Hms := Lib.hid hms
                have hkn : (k : Int) < n := by omega
                clear hb h6 hms hbb hmk htu hS' HBm k09
                rw [Hn.out] at HSw
                go_wp2_with (go_at_call 34; (with_reducible refine (HDg.out _ _ (by (try show Ex _ _); with_reducible repeat (first | exact ex_refl _ | assumption | refine ex_drewL ?_ | refine ex_appR ?_ _ | refine ex_wx ?_ _ | refine ex_drew ?_ | refine ex_alloc ?_ _)) (by simp [go_sem]) (by simp [go_sem])).mono ?_); rintro e w2 ⟨rfl, X7, rfl⟩)
                refine ⟨⟨k + 1, by omega, by go_num, Lib.hid (ex_block (w := w9.setCells g13 0 (rowB 4 (gF (HW (mk ++ b)))).toList) (by (try show Ex _ _); with_reducible repeat (first | exact ex_refl _ | assumption | refine ex_drewL ?_ | refine ex_appR ?_ _ | refine ex_wx ?_ _ | refine ex_drew ?_ | refine ex_alloc ?_ _)) H6.out), Lib.hid ((HFm.out.sets (b := g13) rfl 0 (rowB 4 (gF (HW (mk ++ b)))).toList).trans (Frm.ex (w := w9.setCells g13 0 (rowB 4 (gF (HW (mk ++ b)))).toList) (by (try show Ex _ _); with_reducible repeat (first | exact ex_refl _ | assumption | refine ex_drewL ?_ | refine ex_appR ?_ _ | refine ex_wx ?_ _ | refine ex_drew ?_ | refine ex_alloc ?_ _))))⟩, by simp [intOf]; omega⟩
              · obtain rfl : k = n := by omega
                rw [List.take_of_length_le (Nat.le_of_eq Hn.out)] at hb n13
                have HDw := Lib.hid (HDC5.out.frm HFm.out fun b hb e => n313 (by rw [← e]; exact hb))
                have HVw := Lib.hid (HVC5.out.frm HFm.out fun b e => by rw [e]; exact Nat.le_trans hV05 hwC2)
                have hb6 := (HFm.out.same g6 (Array.getElem?_eq_some_iff.1 HB6C.out).1 h613).trans HB6C.out
                have q0 := (block_cellF (o := 0) (v := U4 c.turn) hb6 rfl)
                obtain ⟨q0, qf0⟩ := q0
                have q4 := (block_cellF (o := 4) (v := U4 c.all) hb6 rfl).1
                have q5 : cellsN w9 g6 5 4 = some (rowB 4 (gF c.mark)) := cellsN_some.2 ⟨by simp, fun j hj => by
                  rw [cell_of_row w9 g6 (5 + j) _ _ _ hb6]
                  match j, hj with
                  | 0, _ => rfl
                  | 1, _ => rfl
                  | 2, _ => rfl
                  | 3, _ => rfl⟩
                have z6 := (Array.getElem?_eq_some_iff.1 hb6).1
                have hgood : ∀ s9, ok = true → goodC HW c l2 = s9 → s9 = if sh.length = c.all ∧ markL HW sh = c.mark ∧ c.turn ≠ 1073741824 then some sh else none := fun s9 hk9 e9 => by
                  rw [← e9]
                  unfold goodC
                  have h1 := hok.out
                  rw [hk9] at h1
                  obtain ⟨s8, h8⟩ := Option.isSome_iff_exists.1 h1.symm
                  have h7 := hsh.out
                  rw [h8] at h7
                  have h7 : s8 = sh := h7
                  rw [Hrw.out, h8, h7]
                have hbad : ok = false → goodC HW c l2 = none := fun hk9 => by
                  unfold goodC
                  have h1 := hok.out
                  rw [hk9] at h1
                  have h8 : rw2 = none := by
                    cases rw2 with
                    | none => rfl
                    | some x => cases h1
                  rw [Hrw.out, h8]
                have Hgood := Lib.hid hgood
                have Hbad := Lib.hid hbad
                have hmkl : (markL HW sh).length = 4 := mark_len HW_len sh
                have hmeq : eqF (gF (markL HW sh)) (gF c.mark) 4 = decide (markL HW sh = c.mark) := by
                  rw [Bool.eq_iff_iff, eqF_true, decide_eq_true_eq]
                  refine ⟨fun h => ?_, fun h i _ => by rw [h]⟩
                  apply List.ext_getElem (by rw [hmkl, cm])
                  intro i h1 h2
                  have := h i (by omega)
                  unfold gF at this
                  rw [List.getD_eq_getElem?_getD, List.getD_eq_getElem?_getD, List.getElem?_eq_getElem h1, List.getElem?_eq_getElem h2] at this
                  exact this
                have HN5 := Lib.hid n13
                have Hb6 := Lib.hid hb6
                obtain ⟨eq5, heq5⟩ : ∃ eq5, eqF (gF (markL HW sh)) (gF c.mark) 4 = eq5 := ⟨_, rfl⟩
                rw [heq5] at hmeq
                have Hmeq := Lib.hid hmeq
                have Heq5 := heq5
                have herr : Hid (∀ W', goodC HW c l2 = none → Dv L w L3 W' → DkAt W' L3 d2 → PostOp w L (open2 HW d1 (headsC HW d1.has.length [s0, s1])) (.returned (.tuple #[.pointer none, I 140])) W') := Lib.hid fun W' h9 hv hd => by
                  rw [Hh1.out, hres.out]
                  simp only [if_true]
                  show PostOp w L (open3 HW d2 c (goodC HW c l2)) _ _
                  rw [h9]
                  exact PostOp.err hd hv
                clear hgood hbad hb hb6 hmeq hmkl hlt hk HB6C HBm heq5
                cases ok with
                | false =>
                  clear n13 q5
                  go_wp2
                  go_ret2
                  exact herr.out _ (by first | exact Hbad.out rfl | exact Hbad.out trivial) HVw.out HDw.out
                | true =>
                  have hg9 : goodC HW c l2 = if sh.length = c.all ∧ markL HW sh = c.mark ∧ c.turn ≠ 1073741824 then some sh else none := (by first | exact Hgood.out _ rfl rfl | exact Hgood.out _ trivial rfl)
                  by_cases m1 : sh.length = c.all
                  · have u1 : ((k : Int) != (c.all : Int)) = false := by simp; have := Hn.out; omega
                    have u2 : ((k : Int) == (c.all : Int)) = true := by simp; have := Hn.out; omega
                    cases eq5 with
                    | false =>
                      have h10 : goodC HW c l2 = none := by rw [hg9, if_neg]; rintro ⟨_, h, _⟩; have := Hmeq.out; rw [h] at this; simp at this
                      replace h10 := Lib.hid h10
                      clear hg9 m1
                      go_wp2
                      go_ret2
                      exact herr.out _ h10.out HVw.out HDw.out
                    | true =>
                      have m2 : markL HW sh = c.mark := of_decide_eq_true Hmeq.out.symm
                      by_cases m3 : c.turn = 1073741824
                      · have h10 : goodC HW c l2 = none := by rw [hg9, if_neg]; rintro ⟨_, _, h⟩; exact h m3
                        replace h10 := Lib.hid h10
                        have u3 : ((c.turn : Int) == 1073741824) = true := by simp; omega
                        clear hg9 m1 m2
                        go_wp2
                        go_ret2
                        exact herr.out _ h10.out HVw.out HDw.out
                      · have h10 : goodC HW c l2 = some sh := by rw [hg9, if_pos ⟨m1, m2, m3⟩]
                        replace h10 := Lib.hid h10
                        have u3 : ((c.turn : Int) == 1073741824) = false := by simp; omega
                        clear hg9 m1 m2
                        obtain ⟨gW, hgW⟩ : ∃ gW, w9.heap.size = gW := ⟨_, rfl⟩
                        obtain ⟨WA, hWA⟩ : ∃ WA, (w9.setCell ⟨g6, 0, none⟩ (.int .u32 ((c.turn : Int) + 1))).alloc (.cells (WR zeroC L.p (.slice sa k sc) false) 64) = WA := ⟨_, rfl⟩
                        have h6b := setCell_block (o := 0) (.int .u32 ((c.turn : Int) + 1)) Hb6.out
                        have hcu : (CR c).setIfInBounds 0 (.int .u32 ((c.turn : Int) + 1)) = CR (upC c) := by
                          show #[.int .u32 ((c.turn : Int) + 1), U4 c.n, U4 c.side, U4 c.used, U4 c.all, B (gF c.mark 0), B (gF c.mark 1), B (gF c.mark 2), B (gF c.mark 3)] = #[U4 (c.turn + 1), U4 c.n, U4 c.side, U4 c.used, U4 c.all, B (gF c.mark 0), B (gF c.mark 1), B (gF c.mark 2), B (gF c.mark 3)]
                          unfold U4
                          push_cast
                          rfl
                        rw [hcu] at h6b
                        have n6 := (block_cellsF (n := 9) h6b rfl).1
                        have hzs : (w9.setCell ⟨g6, 0, none⟩ (.int .u32 ((c.turn : Int) + 1))).heap.size = gW := by rw [← hgW]; simp [World.setCell]
                        have hbW : WA.heap[gW]? = some (.cells (WR zeroC L.p (.slice sa k sc) false) 64 (0, 0)) := by
                          rw [← hWA, ← hzs]; exact heap_alloc_new _ _
                        have F1 : Frm (fun b => b = g6) w9 WA := by rw [← hWA]; exact Frm.trans (b := w9.setCell ⟨g6, 0, none⟩ (.int .u32 ((c.turn : Int) + 1))) ((Frm.refl (fun b => b = g6) w9).set (b := g6) rfl 0 _) (Frm.ex (ex_alloc (ex_refl _) _))
                        have hDA : DkAt WA L3 d2 := HDw.out.frm F1 fun b hb e => n36 (by rw [← e]; exact hb)
                        have hVA : Dv L w L3 WA := HVw.out.frm F1 fun b e => by rw [e]; exact hw6
                        have hSA : SlSh WA (.slice sa k sc) sh := by
                          have := HSw.out.ky (Frm.ky F1 Hb6.out (by decide) (by decide))
                          rwa [Hn.out] at this
                        have k0A : Ex w0 WA := ex_of_below ((ex_below k09).trans (F1.below (ex_size k09) fun b e => by rw [e]; exact Nat.le_trans (ex_size k0) hw6))
                        have hnW : ¬ L3.own gW := fun e => by have := HDw.out.lt e; omega
                        have hops2 : d2.ops + 2 < 1000000000 := by omega
                        have hq2 : d2.qu.length + 1 < 1000000 := by rw [ro3]; omega
                        have hcB : CmB (upC c) := ⟨by show c.turn + 1 < _; omega, by show c.n < _; omega, by show c.side < _; omega, by show c.used < _; omega, ca2, cm⟩
                        obtain ⟨rh, hrh⟩ : ∃ rh, headD HW d2 (upC c) = rh := ⟨_, rfl⟩
                        have HHf : Hid (Calls Tryd.prog 39 #[PT gW, .agg (CR (upC c))] WA (fun e w' => ∃ bw bc, e = .returned (.func (.func 64) #[] #[PT bw, PT bc]) ∧ Hid (Ex WA w' ∧ w'.heap[bw]? = some (.cells #[PT gW] 24 (0, 0)) ∧ w'.heap[bc]? = some (.cells (CR (upC c)) 62 (0, 0)) ∧ WA.heap.size ≤ bw ∧ WA.heap.size ≤ bc))) := Lib.hid ((headf_any gW (upC c) WA).mono fun e w' hh => by
                          obtain ⟨rfl, rfl⟩ := hh
                          refine ⟨_, _, rfl, Lib.hid ⟨ex_alloc (ex_alloc (ex_refl _) _) _, ex_block (ex_alloc (ex_refl _) _) (heap_alloc_new _ _), ?_, Nat.le_refl _, Nat.le_succ _⟩⟩
                          have := heap_alloc_new (WA.alloc (.cells #[PT gW] 24)) (.cells (CR (upC c)) 62)
                          rwa [World.size_alloc] at this)
                        have HH1 : Hid (∀ W' bw bc, Hid (Ex WA W' ∧ W'.heap[bw]? = some (.cells #[PT gW] 24 (0, 0)) ∧ W'.heap[bc]? = some (.cells (CR (upC c)) 62 (0, 0)) ∧ WA.heap.size ≤ bw ∧ WA.heap.size ≤ bc) →
                            Calls Tryd.prog 64 #[PT bw, PT bc] W' (fun e w' => ∃ L', e = .returned (I rh.2) ∧ Hid (Dv L w L' w' ∧ DkAt w' L' rh.1 ∧ (rh.2 = 0 → LgM w' gW L' rh.1 ⟨upC c, sh, false⟩)))) := Lib.hid fun W' bw bc hh => by
                          obtain ⟨x1, x2, x3, x4, x5⟩ := hh.out
                          have hlt : ∀ x, L3.own x → x < WA.heap.size := fun x hx => hDA.lt hx
                          refine (head1_any G (ex_trans k0A x1) (hDA.ex x1) gW bw bc (upC c) zeroC (.slice sa k sc) false hcB (by rw [HVw.out.pp]; exact ex_block x1 hbW) x2 x3 hnW (fun e => by have := hlt _ e; omega) (fun e => by have := hlt _ e; omega) hops2 hq2).mono fun e w' hp => ?_
                          obtain ⟨L', he9, hd9, hv9, hb9⟩ := hp
                          rw [hrh] at he9 hd9 hb9
                          have hv8 := (Wv.ofDv (p := gW) (hVA.grow x1)).trans hv9
                          have zW : gW < W'.heap.size := (Array.getElem?_eq_some_iff.1 (ex_block x1 hbW)).1
                          refine ⟨L', he9, Lib.hid ⟨hv8.dv (by rw [← hgW]; exact HVw.out.size), hd9, fun h0 => ⟨hd9, ⟨_, by rw [hv9.pp]; rw [if_pos h0] at hb9; exact hb9, (hSA.ky (Ky.ex x1)).ky (hv9.ky (hDA.ex x1) (ex_block x1 hbW))⟩, fun e => (hv9.own e).elim hnW fun e2 => by omega⟩⟩⟩
                        have hfinal : Hid (∀ W', (∃ L', Hid (Dv L w L' W' ∧ DkAt W' L' rh.1 ∧ (rh.2 = 0 → LgM W' gW L' rh.1 ⟨upC c, sh, false⟩))) → PostOp w L (open2 HW d1 (headsC HW d1.has.length [s0, s1])) (.returned (.tuple #[if rh.2 = 0 then PT gW else .pointer none, I rh.2])) W') := Lib.hid fun W' hh => by
                          obtain ⟨L', hh⟩ := hh
                          obtain ⟨y1, y2, y3⟩ := hh.out
                          rw [Hh1.out, hres.out]
                          simp only [if_true]
                          show PostOp w L (open3 HW d2 c (goodC HW c l2)) _ _
                          rw [h10.out]
                          show PostOp w L ((headD HW d2 (upC c)).1, (if (headD HW d2 (upC c)).2 = 0 then some ⟨upC c, sh, false⟩ else none), (headD HW d2 (upC c)).2) _ _
                          rw [hrh]
                          by_cases h0 : rh.2 = 0
                          · rw [if_pos h0, if_pos h0]
                            exact ⟨_, L', rfl, y1, y2, gW, rfl, y3 h0, by rw [← hgW]; exact HVw.out.size⟩
                          · rw [if_neg h0, if_neg h0]
                            exact ⟨_, L', rfl, y1, y2, rfl⟩
                        obtain ⟨d9, er⟩ := rh
                        dsimp only at HH1 hfinal
                        have HWA := Lib.hid hWA
                        clear hVA hDA hSA k0A hbW F1 hzs h6b hcB hrh hWA
                        by_cases her : er = 0
                        · subst her
                          go_wp2_with (first | (go_at_call 39; (first | rw [HWA.out] | skip); (with_reducible refine HHf.out.mono ?_); rintro e w7 ⟨bw, bc, rfl, hq⟩) | (go_at_call 64; (with_reducible refine (HH1.out _ _ _ hq).mono ?_); rintro e w8 ⟨L4, rfl, hy⟩))
                          go_ret2
                          exact hfinal.out _ ⟨L4, hy⟩
                        · have he8 : (er == 0) = false := beq_eq_false_iff_ne.2 her
                          have he9 : (er != 0) = true := by simp [her]
                          rw [if_neg her] at hfinal
                          go_wp2_with (first | (go_at_call 39; (first | rw [HWA.out] | skip); (with_reducible refine HHf.out.mono ?_); rintro e w7 ⟨bw, bc, rfl, hq⟩) | (go_at_call 64; (with_reducible refine (HH1.out _ _ _ hq).mono ?_); rintro e w8 ⟨L4, rfl, hy⟩))
                          go_ret2
                          exact hfinal.out _ ⟨L4, hy⟩
                  · have h10 : goodC HW c l2 = none := by rw [hg9, if_neg (fun h => m1 h.1)]
                    replace h10 := Lib.hid h10
                    have u1 : ((k : Int) != (c.all : Int)) = true := by simp; have := Hn.out; omega
                    have u2 : ((k : Int) == (c.all : Int)) = false := by simp; have := Hn.out; omega
                    clear hg9 m1 n13 q5
                    go_wp2
                    go_ret2
                    exact herr.out _ h10.out HVw.out HDw.out
          · have he3 : (e2 != 0) = true := by simp [he2]
            have he4 : (e2 == 0) = false := beq_eq_false_iff_ne.2 he2
            clear hO5 hG5
            go_wp2
            go_ret2
            rw [Hh1.out, hres.out, if_neg he2]
            exact PostOp.err hD5.out VT.out
  · rw [if_neg he]
    have he2 : (e1 != 0) = true := by simp [he]
    have he3 : (e1 == 0) = false := beq_eq_false_iff_ne.2 he
    go_enter Tryd.func9, Tryd.ntmps9
    go_wp2_with (go_at_call 40; (with_reducible refine HR1.out.mono ?_); rintro e w2 ⟨lv, L2, rfl, hD2, hV2, hO2, hG2⟩; obtain ⟨la, lc, rfl, _⟩ := own_form9 hO2; replace hD2 := Lib.hid hD2; replace hV2 := Lib.hid hV2)
    go_ret2
    exact PostOp.err hD2.out hV2.out
end Go.Proofs.YtabjamkkhlbajaaDoor
