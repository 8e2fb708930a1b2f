import Derived.Test.YtabjamkkhlbajaaDoorMWlEq
import Derived.Laws.StructEq
import Derived.ChangeKeysEq
import Derived.Test.YtabjamkkhlbajaaDoorMLittle
import Derived.Test.YtabjamkkhlbajaaDoorMDkP
import Derived.Deep.Upon

/- The log: claims held against the empty one. -/
set_option linter.unusedSimpArgs false
set_option linter.unusedVariables false
set_option linter.unnecessarySimpa false
set_option maxRecDepth 20000
namespace Go.Proofs.YtabjamkkhlbajaaDoor
open Go.RowKit
abbrev zRow : Array Value := #[.int .u32 0, .int .u32 0, .int .u32 0, .int .u32 0, .int .u32 0, .int .u8 0, .int .u8 0, .int .u8 0, .int .u8 0]
theorem eq_zero_zero (w : World) : (binOp .eql 62 (.agg zRow) (.agg zRow)).run Tryd.prog w = .ok (.bool true) w := by kernel_rfl
theorem eq_zero_ne (t n s u a : Int) (f : Nat → UInt8) (ht : t ≠ 0) (w : World) : (binOp .eql 62 (.agg #[.int .u32 t, .int .u32 n, .int .u32 s, .int .u32 u, .int .u32 a, B (f 0), B (f 1), B (f 2), B (f 3)]) (.agg zRow)).run Tryd.prog w = .ok (.bool false) w := by
  have hS : Tryd.prog.underlying 62 = some (.struct (Tryd.prog.fieldsOf 62)) := by kernel_rfl
  have hp : Tryd.prog.stoodInHeld 62 = false := by kernel_rfl
  have hd : ((Tryd.prog.fieldsOf 62).toList.head?.map fun f => (f.name, f.type, f.offset)) = some ("turn", 36, 0) := by kernel_rfl
  have he : Tryd.prog.plainKey 36 = true := by kernel_rfl
  rw [run_eql_struct, show (10000 : Nat) = 9999 + 1 from rfl, run_equalIn_agg w 9999 _ _ _ hS hp]
  generalize (Tryd.prog.fieldsOf 62).toList = l at hd ⊢
  cases l with
  | nil => cases hd
  | cons f0 fs =>
    simp only [List.head?_cons, Option.map_some, Option.some.injEq, Prod.mk.injEq] at hd
    obtain ⟨h1, h2, h3⟩ := hd
    have p1 : ∀ w, (part 36 (#[.int .u32 t, .int .u32 n, .int .u32 s, .int .u32 u, .int .u32 a, B (f 0), B (f 1), B (f 2), B (f 3)] : Array Value) 0).run Tryd.prog w = .ok (.int .u32 t) w := fun w => run_part_plain w he rfl
    have p2 : ∀ w, (part 36 zRow 0).run Tryd.prog w = .ok (.int .u32 0) w := fun w => run_part_plain w he rfl
    have e1 : (t == 0) = false := beq_eq_false_iff_ne.2 ht
    unfold Op.eqFields
    rw [h1, h2, h3, if_pos (by decide)]
    simp only [Sem.run_bind, p1, p2, Result.andThen_ok, run_equalIn_int _ 9998 36 .u32 .u32 t 0 Tryd.underlying36, e1, Bool.not_false, if_true, Sem.run_pure]
noncomputable def eqRawC (xs : Array Value) (w : World) : Result Value := (binOp .eql 62 (.agg xs) (.agg zRow)).run Tryd.prog w
@[go_sem high] theorem eq_claim_zero (c : Cm) (w : World) : (binOp .eql 62 (.agg (CR c)) (.agg zRow)).run Tryd.prog w = if (c.turn : Int) = 0 then eqRawC (CR c) w else .ok (.bool false) w := by
  split
  · rfl
  · rename_i h
    exact eq_zero_ne _ _ _ _ _ (gF c.mark) h w
@[go_sem high] theorem eq_zero_zero' (w : World) : (binOp .eql 62 (.agg zRow) (.agg zRow)).run Tryd.prog w = .ok (.bool true) w := eq_zero_zero w
@[go_sem high] theorem eql_mrk (f g : Nat → UInt8) (w : World) : (binOp .eql 60 (.agg (rowB 4 f)) (.agg (rowB 4 g))).run Tryd.prog w = .ok (.bool (eqF f g 4)) w := eqlB Tryd.underlying60 Tryd.underlying5 (by kernel_rfl) f g w
@[go_sem high] theorem neq_mrk (f g : Nat → UInt8) (w : World) : (binOp .neq 60 (.agg (rowB 4 f)) (.agg (rowB 4 g))).run Tryd.prog w = .ok (.bool (!eqF f g 4)) w := neqB Tryd.underlying60 Tryd.underlying5 (by kernel_rfl) f g w
def build12Run (P : Program) (t : TypeId) (v1 v2 : Value) (w : World) : Result Next := ((Instr.build t #[(1, v1), (2, v2)]).run P w).andThen fun x w' => .ok (.value x) w'
@[go_sem ↓ high] theorem run_build12_pre {P : Program} (ρ : Operand → Value) (d : Option Tmp) (t : TypeId) (x1 x2 : Operand) (ty : TypeId) (pos : String) (aft : Array Edge) (g : Option (Nat × Bool)) (w : World) :
    Sem.run P (execOp ρ ⟨d, .build t #[(1, x1), (2, x2)], ty, pos, aft, g⟩) w = build12Run P t (ρ x1) (ρ x2) w := by
  simp only [execOp, Sem.run_bind, Sem.run_pure, build12Run, List.map_toArray, List.map_cons, List.map_nil]
@[go_sem low] theorem build12Run_other {P : Program} (t : TypeId) (v1 v2 : Value) (w : World) : build12Run P t v1 v2 w = ((Instr.build t #[(1, v1), (2, v2)]).run P w).andThen fun x w' => .ok (.value x) w' := rfl
theorem built_wal (q n c : Nat) (a : Option Addr) : Tryd.prog.built 64 [(1, PT q), (2, .slice a n c)] = some (WR zeroC q (.slice a n c) false) := by kernel_rfl
@[go_sem] theorem build12_wal (q n c : Nat) (a : Option Addr) (w : World) : build12Run Tryd.prog 64 (PT q) (.slice a n c) w = .ok (.value (.agg (WR zeroC q (.slice a n c) false))) w := by
  unfold build12Run
  rw [run_build w _ _ _ (built_wal q n c a)]; rfl
theorem whole_facts : ∀ (f : Nat) (l : List Bk) (sh : List By), wholeP f l = some sh → sh.length ≤ l.length ∧ ∀ b ∈ sh, b.length ≤ 50000
  | f, [], sh, h => by
    have : sh = [] := by cases f <;> (cases h; rfl)
    rw [this]; exact ⟨Nat.le_refl _, by simp⟩
  | 0, b :: r, sh, h => by cases h
  | f + 1, b :: r, sh, h => by
    have hp := secs_pos (num4 (blkL b))
    unfold wholeP at h
    split at h
    · cases h
    · rename_i hn
      split at h
      · rw [Option.map_eq_some_iff] at h
        obtain ⟨sh2, h2, rfl⟩ := h
        obtain ⟨q1, q2⟩ := whole_facts f _ _ h2
        rw [List.length_drop, List.length_cons] at q1
        refine ⟨by rw [List.length_cons, List.length_cons]; omega, fun x hx => ?_⟩
        rcases List.mem_cons.1 hx with rfl | hx
        · rw [List.length_take]
          have : num4 (blkL b) ≤ 50000 := Nat.le_of_not_lt fun e => hn (Or.inl e)
          omega
        · exact q2 x hx
      · cases h
theorem wholeW_facts {l : List Bk} {sh : List By} (h : wholeW l = some sh) : sh.length ≤ l.length ∧ ∀ b ∈ sh, b.length ≤ 50000 := whole_facts _ _ _ h
/-- The better of two heads. -/
def bestK (c : Cm) (ok : Bool) (x : Cm) : Cm := if ok = true ∧ c.turn < x.turn then x else c
def headK (sz : Nat) (l : List Bk) : Nat → Cm
  | 0 => zeroC
  | k + 1 => bestK (headK sz l k) (rdB sz k (l.getD k zeroB)) (cmOf (l.getD k zeroB))
/-- What is known of a head that is right. -/
structure CmR (c : Cm) : Prop where
  t1 : 1 ≤ c.turn
  t2 : c.turn ≤ 1073741824
  n : c.n ≤ 1000
  s : c.side ≤ 1
  un : c.used ≤ c.n
  a1 : 1 ≤ c.all
  a2 : c.all < 4294967296
  m : c.mark.length = 4
theorem cmOf_mark (s : Bk) : (cmOf s).mark.length = 4 := by
  show (((blkL s).drop 28).take 4).length = 4
  rw [List.length_take, List.length_drop, blkL_len]; rfl
theorem rdB_right {sz at_ : Nat} {s : Bk} (h : rdB sz at_ s = true) : CmR (cmOf s) := by
  unfold rdB rightC mayB at h
  simp only [Bool.and_eq_true, decide_eq_true_eq] at h
  obtain ⟨⟨⟨⟨⟨⟨⟨h1, h2⟩, h3⟩, ⟨h4, h5⟩, h6⟩, h7⟩, h8⟩, h9⟩, h10⟩ := h
  exact ⟨h1, h2, h5, h7, h8, h9, num4_lt _, cmOf_mark s⟩
theorem headK_two {sz : Nat} {a b : Bk} : (headsC HW sz [a, b] = none ∧ headK sz [a, b] 2 = zeroC) ∨ (∃ c, headsC HW sz [a, b] = some c ∧ headK sz [a, b] 2 = c ∧ CmR c) := by
  show (bestC (readC HW sz 0 a) (readC HW sz 1 b) = none ∧ bestK (bestK zeroC (rdB sz 0 a) (cmOf a)) (rdB sz 1 b) (cmOf b) = zeroC) ∨ (∃ c, bestC (readC HW sz 0 a) (readC HW sz 1 b) = some c ∧ bestK (bestK zeroC (rdB sz 0 a) (cmOf a)) (rdB sz 1 b) (cmOf b) = c ∧ CmR c)
  rw [readC_rdB, readC_rdB]
  have hz : zeroC.turn = 0 := rfl
  by_cases h0 : rdB sz 0 a = true
  · have r0 := rdB_right h0
    have t0 := r0.t1
    have e0 : bestK zeroC (rdB sz 0 a) (cmOf a) = cmOf a := by unfold bestK; rw [if_pos ⟨h0, by omega⟩]
    rw [e0, if_pos h0]
    by_cases h1 : rdB sz 1 b = true
    · have r1 := rdB_right h1
      rw [if_pos h1]
      right
      by_cases hlt : (cmOf a).turn < (cmOf b).turn
      · exact ⟨cmOf b, by show (if _ then _ else _) = _; rw [if_pos hlt], by unfold bestK; rw [if_pos ⟨h1, hlt⟩], r1⟩
      · exact ⟨cmOf a, by show (if _ then _ else _) = _; rw [if_neg hlt], by unfold bestK; rw [if_neg (fun h => hlt h.2)], r0⟩
    · rw [if_neg h1]
      exact Or.inr ⟨cmOf a, rfl, by unfold bestK; rw [if_neg (fun h => h1 h.1)], r0⟩
  · have e0 : bestK zeroC (rdB sz 0 a) (cmOf a) = zeroC := by unfold bestK; rw [if_neg (fun h => h0 h.1)]
    rw [e0, if_neg h0]
    by_cases h1 : rdB sz 1 b = true
    · have r1 := rdB_right h1
      have t1 := r1.t1
      rw [if_pos h1]
      exact Or.inr ⟨cmOf b, rfl, by unfold bestK; rw [if_pos ⟨h1, by omega⟩], r1⟩
    · rw [if_neg h1]
      exact Or.inl ⟨rfl, by unfold bestK; rw [if_neg (fun h => h1 h.1)]⟩
end Go.Proofs.YtabjamkkhlbajaaDoor

/- The log: Open. -/
set_option linter.unusedSimpArgs false
set_option linter.unusedVariables false
set_option linter.unnecessarySimpa false
set_option maxRecDepth 20000
namespace Go.Proofs.YtabjamkkhlbajaaDoor
open Go.RowKit
/-- What opening a log leads to. -/
def PostOp (w : World) (L : Loc) (r : Dk × Option Wl × Int) (e : Ending) (w' : World) : Prop :=
  ∃ v L', e = .returned (.tuple #[v, I r.2.2]) ∧ Dv L w L' w' ∧ DkAt w' L' r.1 ∧ match r.2.1 with
    | none => v = .pointer none
    | some wl => ∃ p, v = PT p ∧ LgM w' p L' r.1 wl ∧ w.heap.size ≤ p
theorem PostOp.err {w : World} {L L' : Loc} {d : Dk} {e : Int} {w' : World} (h : DkAt w' L' d) (k : Dv L w L' w') : PostOp w L (d, none, e) (.returned (.tuple #[.pointer none, I e])) w' := ⟨_, L', rfl, k, h, rfl⟩
theorem DkAt.frm {w w' : World} {L : Loc} {d : Dk} {F : Nat → Prop} (h : DkAt w L d) (k : Frm F w w') (hF : ∀ b, L.own b → ¬ F b) : DkAt w' L d := by
  obtain ⟨qv, hM⟩ := h.out
  exact ⟨qv, hM.keep fun b hb => k.same b (hM.lt hb) (hF b hb)⟩
theorem wr_claim9 (c c2 : Cm) : spliceA (CR c) 0 (CR c2).toList = CR c2 := by kernel_rfl
theorem Frm.ky {w w' : World} {g : Nat} {cs : Array Value} {t : TypeId} {fr : Nat × Nat} (h : Frm (fun b => b = g) w w') (hb : w.heap[g]? = some (.cells cs t fr)) (h1 : t ≠ 5) (h2 : t ≠ 22) : Ky w w' := fun g2 cs2 t2 fr2 hg ht => by
  refine (h.same g2 (Array.getElem?_eq_some_iff.1 hg).1 fun e => ?_).trans hg
  subst e
  rw [hb] at hg
  cases hg
  exact ht.elim h1 h2
theorem Wv.dv {p : Nat} {L L' : Loc} {w w' : World} (h : Wv p L w L' w') (hp : w.heap.size ≤ p) : Dv L w L' w' :=
  ⟨h.fr.os, h.fr.tape, h.fr.output, h.fr.size, fun b hb ho => h.fr.same b hb fun e => e.elim (fun e => by omega) ho, h.pp, h.hh, h.qq⟩
theorem mark_zero : (#[.int .u8 0, .int .u8 0, .int .u8 0, .int .u8 0] : Array Value) = rowB 4 (gF (markL HW [])) := by kernel_rfl
set_option maxHeartbeats 1000000 in
theorem open_any {w0 w : World} (G : Glob w0) (k0 : Ex w0 w) {L : Loc} {d : Dk} (h : DkAt w L d) (ho : ∀ x, L.own x → w0.heap.size ≤ x) (hops : d.ops + 4000 < 1000000000) (hq : d.qu.length + 2000 < 1000000) :
    Calls Tryd.prog 9 #[PT L.p] w (PostOp w L (openD HW d)) := by
  have HR1 : Hid (Calls Tryd.prog 40 #[PT L.p, .int .i64 0, .int .i64 2] w (PostRs w L (readsN d 0 2))) := Lib.hid (reads_any h 0 2 (by omega) (by omega) (by omega))
  obtain ⟨ro1, ro2, ro3⟩ := reads_ops 2 d 0
  have hln := reads_len 2 d 0
  unfold openD
  obtain ⟨r1, hr1⟩ : ∃ r, readsN d 0 2 = r := ⟨_, rfl⟩
  rw [hr1] at HR1 ro1 ro2 ro3 hln ⊢
  obtain ⟨d1, l1, e1⟩ := r1
  dsimp only at ro1 ro2 ro3 hln ⊢
  have HD0 := Lib.hid h
  clear hr1 h
  by_cases he : e1 = 0
  · rw [if_pos he]
    subst he
    have hln := hln rfl
    obtain ⟨s0, s1, rfl⟩ : ∃ a b, l1 = [a, b] := by
      match l1, hln with
      | [a, b], _ => exact ⟨a, b, rfl⟩
    clear hln
    have Ho := Lib.hid ho
    rw [← ro3] at hq
    have hops1 : d1.ops + 3000 < 1000000000 := by omega
    have hsz := Lib.hid ro2
    rw [← ro2]
    clear ro1 ro2 ro3 hops ho
    go_enter Tryd.func9, Tryd.ntmps9
    go_wp2_with (go_at_call 40; (with_reducible refine HR1.out.mono ?_); rintro e w2 ⟨lv, L2, rfl, hD2, hV2, hO2, hG2⟩; obtain ⟨la, lc, rfl, _⟩ := own_form9 hO2; replace hD2 := Lib.hid hD2; replace hV2 := Lib.hid hV2; replace hO2 := Lib.hid hO2; replace hG2 := Lib.hid hG2)
    refine wp_worldW fun C hC => ?_
    have kC : Ex w2 C := by rw [← hC]; exact (by (try show Ex _ _); with_reducible repeat (first | exact ex_refl _ | assumption | refine ex_drewL ?_ | refine ex_appR ?_ _ | refine ex_wx ?_ _ | refine ex_drew ?_ | refine ex_alloc ?_ _))
    have b6 : C.heap[w2.heap.size]? = some (.cells (CR zeroC) 62 (0, 0)) := by rw [← hC, zeroC_row]; exact ex_block (w := w2.alloc (.cells zRow 62)) (by (try show Ex _ _); with_reducible repeat (first | exact ex_refl _ | assumption | refine ex_drewL ?_ | refine ex_appR ?_ _ | refine ex_wx ?_ _ | refine ex_drew ?_ | refine ex_alloc ?_ _)) (heap_alloc_new _ _)
    clear hC
    obtain ⟨g6, hg6⟩ : ∃ g, w2.heap.size = g := ⟨_, rfl⟩
    rw [hg6] at b6 ⊢
    have n26 : ¬ L2.own g6 := fun e => by have := hD2.out.lt e; omega
    have HDC := Lib.hid (hD2.out.ex kC)
    have HVC := Lib.hid (hV2.out.grow kC)
    have HOC := Lib.hid (owns_ex hO2.out kC)
    have k0C : Hid (Ex w0 C) := Lib.hid (ex_of_below ((ex_below k0).trans (HVC.out.below (ex_size k0) Ho.out)))
    have hgl : Hid (∀ g, (Value.slice la 2 lc).ownBlock = some g → g ≠ g6) := Lib.hid fun g hg => by have := (World.ownsRow.lt hO2.out g hg).2; omega
    have hw6 : w.heap.size ≤ g6 := by rw [← hg6]; exact hV2.out.size
    clear kC hg6 hD2 hV2 hO2 hG2
    have b6' := Lib.hid b6
    have zC6 := (Array.getElem?_eq_some_iff.1 b6).1
    clear b6
    go_loopw [30] (fun i W => ∃ k : Nat, k ≤ 2 ∧ i = I k ∧ Hid (W.heap[g6]? = some (.cells (CR (headK d1.has.length [s0, s1] k)) 62 (0, 0))) ∧ Hid (Frm (fun b => b = g6) C W)) (fun i _ => 2 - (intOf i).toNat)
    case atStart => exact ⟨0, by omega, rfl, b6', Lib.hid (Frm.refl _ _)⟩
    case round =>
      obtain ⟨k, hk, rfl, HB, HF⟩ := hrel
      by_cases hlt : k < 2
      · have hkn : (k : Int) < 2 := by omega
        obtain ⟨y, hy⟩ : ∃ y, [s0, s1][k]? = some y := ⟨_, List.getElem?_eq_getElem (by simpa using hlt)⟩
        have hOw : wr.ownsRow w.heap.size 75 64 (.slice la 2 lc) 2 ([s0, s1].flatMap KK) := owns_same HOC.out fun g hg => HF.out.same g (World.ownsRow.lt HOC.out g hg).2 (hgl.out g hg)
        obtain ⟨gl, cap, cur, hvl, _⟩ := own_block hOw (by omega) (by omega)
        obtain ⟨rfl, rfl⟩ : la = some ⟨gl, 0, none⟩ ∧ lc = cap := by simpa using hvl
        have c1 := (own_at KK_len hOw hy).1
        rw [KK_back] at c1
        have zl := (World.ownsRow.lt hOw gl rfl).2
        have hDw := HDC.out.frm HF.out fun b hb e => n26 (by rw [← e]; exact hb)
        have k0w : Ex w0 wr := ex_of_below ((ex_below k0C.out).trans (HF.out.below (ex_size k0C.out) fun b e => by rw [e]; exact Nat.le_trans (ex_size k0) hw6))
        have HRd : Hid (∀ w', Ex wr w' → Calls Tryd.prog 41 #[PT L.p, I k, .agg (rowB 64 (bkF y))] w' (Post w' (.tuple #[.agg (CR (cmOf y)), .bool (rdB d1.has.length k y)]))) := Lib.hid fun w' x => by
          have := readw_any G (ex_trans k0w x) (hDw.ex x) k (by omega) y
          rwa [HVC.out.pp] at this
        have hyd : [s0, s1].getD k zeroB = y := by rw [List.getD_eq_getElem?_getD, hy]; rfl
        have hHK : headK d1.has.length [s0, s1] (k + 1) = bestK (headK d1.has.length [s0, s1] k) (rdB d1.has.length k y) (cmOf y) := by show bestK _ (rdB _ k ([s0, s1].getD k zeroB)) (cmOf ([s0, s1].getD k zeroB)) = _; rw [hyd]
        have HHK := Lib.hid hHK
        obtain ⟨ck, hck⟩ : ∃ ck, headK d1.has.length [s0, s1] k = ck := ⟨_, rfl⟩
        rw [hck] at HB HHK
        obtain ⟨x, hx⟩ : ∃ x, cmOf y = x := ⟨_, rfl⟩
        rw [hx] at HRd HHK
        obtain ⟨rd, hrd⟩ : ∃ rd, rdB d1.has.length k y = rd := ⟨_, rfl⟩
        rw [hrd] at HRd HHK
        obtain ⟨n6, f6, z6⟩ := block_cellsF (n := 9) HB.out rfl
        have q6 := (block_cellF (o := 0) (v := U4 ck.turn) HB.out rfl).1
        have h6 := setCells_block g6 62 (0, 0) (CR x).toList 0 wr _ HB.out
        rw [wr_claim9] at h6
        replace h6 := Lib.hid h6
        generalize bkF y = fy at *
        have hwr := HF.out.size
        clear hvl hOw hDw k0w hHK hck hx hrd hy hyd
        cases rd with
        | false =>
          go_wp2_with (go_at_call 41; (with_reducible refine (HRd.out _ (by (try show Ex _ _); with_reducible repeat (first | exact ex_refl _ | assumption | refine ex_drewL ?_ | refine ex_appR ?_ _ | refine ex_wx ?_ _ | refine ex_drew ?_ | refine ex_alloc ?_ _))).mono ?_); rintro e w4 ⟨rfl, X4, rfl⟩)
          refine ⟨⟨k + 1, by omega, by go_num, Lib.hid (by rw [HHK.out]; exact ex_block (by (try show Ex _ _); with_reducible repeat (first | exact ex_refl _ | assumption | refine ex_drewL ?_ | refine ex_appR ?_ _ | refine ex_wx ?_ _ | refine ex_drew ?_ | refine ex_alloc ?_ _)) HB.out), Lib.hid (HF.out.trans (Frm.ex (by (try show Ex _ _); with_reducible repeat (first | exact ex_refl _ | assumption | refine ex_drewL ?_ | refine ex_appR ?_ _ | refine ex_wx ?_ _ | refine ex_drew ?_ | refine ex_alloc ?_ _))))⟩, by simp [intOf]; omega⟩
        | true =>
          by_cases hlx : ck.turn < x.turn
          · have t1 : decide ((ck.turn : Int) < x.turn) = true := decide_eq_true (by omega)
            go_wp2_with (go_at_call 41; (with_reducible refine (HRd.out _ (by (try show Ex _ _); with_reducible repeat (first | exact ex_refl _ | assumption | refine ex_drewL ?_ | refine ex_appR ?_ _ | refine ex_wx ?_ _ | refine ex_drew ?_ | refine ex_alloc ?_ _))).mono ?_); rintro e w4 ⟨rfl, X4, rfl⟩)
            refine ⟨⟨k + 1, by omega, by go_num, Lib.hid (by rw [HHK.out]; unfold bestK; rw [if_pos ⟨rfl, hlx⟩]; exact ex_block (w := wr.setCells g6 0 (CR x).toList) (by (try show Ex _ _); with_reducible repeat (first | exact ex_refl _ | assumption | refine ex_drewL ?_ | refine ex_appR ?_ _ | refine ex_wx ?_ _ | refine ex_drew ?_ | refine ex_alloc ?_ _)) h6.out), Lib.hid ((HF.out.sets (b := g6) rfl 0 (CR x).toList).trans (Frm.ex (by (try show Ex _ _); with_reducible repeat (first | exact ex_refl _ | assumption | refine ex_drewL ?_ | refine ex_appR ?_ _ | refine ex_wx ?_ _ | refine ex_drew ?_ | refine ex_alloc ?_ _))))⟩, by simp [intOf]; omega⟩
          · have t1 : decide ((ck.turn : Int) < x.turn) = false := decide_eq_false (by omega)
            go_wp2_with (go_at_call 41; (with_reducible refine (HRd.out _ (by (try show Ex _ _); with_reducible repeat (first | exact ex_refl _ | assumption | refine ex_drewL ?_ | refine ex_appR ?_ _ | refine ex_wx ?_ _ | refine ex_drew ?_ | refine ex_alloc ?_ _))).mono ?_); rintro e w4 ⟨rfl, X4, rfl⟩)
            refine ⟨⟨k + 1, by omega, by go_num, Lib.hid (by rw [HHK.out]; unfold bestK; rw [if_neg (fun h => hlx h.2)]; exact ex_block (by (try show Ex _ _); with_reducible repeat (first | exact ex_refl _ | assumption | refine ex_drewL ?_ | refine ex_appR ?_ _ | refine ex_wx ?_ _ | refine ex_drew ?_ | refine ex_alloc ?_ _)) HB.out), Lib.hid (HF.out.trans (Frm.ex (by (try show Ex _ _); with_reducible repeat (first | exact ex_refl _ | assumption | refine ex_drewL ?_ | refine ex_appR ?_ _ | refine ex_wx ?_ _ | refine ex_drew ?_ | refine ex_alloc ?_ _))))⟩, by simp [intOf]; omega⟩
      · obtain rfl : k = 2 := by omega
        have hDw := HDC.out.frm HF.out fun b hb e => n26 (by rw [← e]; exact hb)
        have hVw := HVC.out.frm HF.out fun b e => by rw [e]; exact hw6
        have k0w : Ex w0 wr := ex_of_below ((ex_below k0C.out).trans (HF.out.below (ex_size k0C.out) fun b e => by rw [e]; exact Nat.le_trans (ex_size k0) hw6))
        clear hlt hk hgl HOC k0C HDC
        rcases headK_two (sz := d1.has.length) (a := s0) (b := s1) with ⟨hh1, hh2⟩ | ⟨c, hh1, hh2, hcR⟩
        · have hb := HB.out
          rw [hh2, zeroC_row] at hb
          obtain ⟨n6, f6, z6⟩ := block_cellsF (n := 9) hb rfl
          have HDw := Lib.hid hDw
          have HVw := Lib.hid hVw
          have Hh1 := Lib.hid hh1
          clear hb hh2 hDw hVw k0w HB hh1
          go_wp2
          go_ret2
          rw [Hh1.out]
          exact PostOp.err HDw.out HVw.out
        · have hb := HB.out
          rw [hh2] at hb
          have HBc := Lib.hid hb
          obtain ⟨n6, f6, z6⟩ := block_cellsF (n := 9) hb rfl
          have q2 := (block_cellF (o := 2) (v := U4 c.side) hb rfl).1
          have q3 := (block_cellF (o := 3) (v := U4 c.used) hb rfl).1
          obtain ⟨t1, t2, cn, cs, cu, ca1, ca2, cm⟩ := hcR
          have tz : ¬ (c.turn : Int) = 0 := by omega
          have Hh1 := Lib.hid hh1
          obtain ⟨P1, hP1⟩ : ∃ P1 : Nat → Prop, P1 = L2.own := ⟨_, rfl⟩
          have nw6 : ¬ P1 g6 := by rw [hP1]; exact n26
          have HP1 : Hid (∀ x, ¬ P1 x → ¬ L2.own x) := Lib.hid (by rw [hP1]; exact fun x hx => hx)
          obtain ⟨a0, ha0⟩ : ∃ a0, 2 + (c.side * c.n + 0) = a0 := ⟨_, rfl⟩
          have ha0b : a0 ≤ 1000000 := by
            have : c.side * c.n ≤ 1000 := by rcases (show c.side = 0 ∨ c.side = 1 by omega) with e | e <;> rw [e] <;> omega
            omega
          have HAt : Hid (∀ w', Calls Tryd.prog 42 #[.agg (CR c), U4 c.side, .int .u32 0] w' (Post w' (I (a0 : Int)))) := Lib.hid fun w' => by
            have := at_any c c.side 0 cs cn (by omega) w'
            rwa [ha0] at this
          have HR2 : Hid (∀ w', Ex wr w' → Calls Tryd.prog 40 #[PT L.p, I a0, I c.used] w' (PostRs w' L2 (readsN d1 a0 c.used))) := Lib.hid fun w' x => by
            have := reads_any (hDw.ex x) a0 c.used ha0b (by omega) (by omega)
            rwa [hVw.pp] at this
          obtain ⟨ro1, ro2, ro3⟩ := reads_ops c.used d1 (a0 : Int)
          have hln := reads_len c.used d1 (a0 : Int)
          have hres : open2 HW d1 (some c) = if (readsN d1 (a0 : Int) c.used).2.2 = 0 then open3 HW (readsN d1 (a0 : Int) c.used).1 c (goodC HW c (readsN d1 (a0 : Int) c.used).2.1) else ((readsN d1 (a0 : Int) c.used).1, none, (readsN d1 (a0 : Int) c.used).2.2) := by
            show (if (readsN d1 ((2 + c.side * c.n : Nat) : Int) c.used).2.2 = 0 then _ else _) = _
            rw [show 2 + c.side * c.n = a0 by omega]
          obtain ⟨r2, hr2⟩ : ∃ r2, readsN d1 (a0 : Int) c.used = r2 := ⟨_, rfl⟩
          rw [hr2] at HR2 ro1 ro2 ro3 hln hres
          obtain ⟨d2, l2, e2⟩ := r2
          dsimp only at ro1 ro2 ro3 hln hres
          have HDw := Lib.hid hDw
          have HVw := Lib.hid hVw
          have K0w := Lib.hid k0w
          clear hb hh2 hDw hVw k0w HB hh1 hP1 ha0 hr2
          have HEx : Hid (∀ W, Ex wr W → ∀ k, k < wr.heap.size → ¬ P1 k → W.heap[k]? = wr.heap[k]?) := Lib.hid fun W kW k h1 _ => (ex_below kW).block k h1
          have HPo : Hid (∀ (W : World) w4 L3, Ex wr W → Dv L2 W L3 w4 → ∀ k, k < wr.heap.size → ¬ P1 k → w4.heap[k]? = wr.heap[k]?) := Lib.hid fun W w4 L2 kW hv k h1 h2 => (hv.same k (Nat.lt_of_lt_of_le h1 (ex_size kW)) (HP1.out k h2)).trans ((ex_below kW).block k h1)
          go_wp2
          refine wp_region_forkH (fun w' => ∃ X, w' = kp wr P1 X) (.look 0 (.look 1 (.look 2 (.look 3 (.look 5 (.look 6 (.look 7 (.eff 4 (.eff 8 (.look 9 (.look 10 (.look 11 (.look 12 (.look 13 .done)))))))))))))) (⟨_, kp_of (fun _ _ _ => rfl)⟩) (by kernel_rfl) (by kernel_rfl) (fun _ _ d _ _ h => by cases d <;> exact h) ?_
          simp only [Fk.ops, nth]
          repeat (first | ((with_reducible refine wpForkH_look ?_); go_big_quiet_step (fail); (try (with_reducible refine wpQuiet_nil ?_))) | (with_reducible refine wpForkH_eff ?_) | ((with_reducible refine effH_F ?_ ?_); (focus rfl); go_simp) | ((with_reducible refine effH_T ?_ ?_); (focus rfl); (try dsimp only); go_wp2_with (first | (go_at_call 42; (with_reducible refine (HAt.out _).mono ?_); rintro e w4 ⟨rfl, X4, rfl⟩) | (go_at_call 40; (with_reducible refine (HR2.out _ (by (try show Ex _ _); with_reducible repeat (first | exact ex_refl _ | assumption | refine ex_drewL ?_ | refine ex_appR ?_ _ | refine ex_wx ?_ _ | refine ex_drew ?_ | refine ex_alloc ?_ _))).mono ?_); rintro e w5 ⟨l2v, L3, rfl, hD5, hV5, hO5, hG5⟩; obtain ⟨l2a, l2c, rfl, _⟩ := own_form9 hO5; replace hD5 := Lib.hid hD5; replace hV5 := Lib.hid hV5; replace hO5 := Lib.hid hO5; replace hG5 := Lib.hid hG5)); (first | done | refine mixQH_mk (⟨_, kp_of (by first | exact HPo.out _ _ _ (by (try show Ex _ _); with_reducible repeat (first | exact ex_refl _ | assumption | refine ex_drewL ?_ | refine ex_appR ?_ _ | refine ex_wx ?_ _ | refine ex_drew ?_ | refine ex_alloc ?_ _)) hV5.out | exact HEx.out _ (by (try show Ex _ _); with_reducible repeat (first | exact ex_refl _ | assumption | refine ex_drewL ?_ | refine ex_appR ?_ _ | refine ex_wx ?_ _ | refine ex_drew ?_ | refine ex_alloc ?_ _)))⟩) ?_)))
          all_goals (with_reducible refine wpForkH_nil ?_)
          have VT := Lib.hid ((HVw.out.grow (show Ex wr _ from (by (try show Ex _ _); with_reducible repeat (first | exact ex_refl _ | assumption | refine ex_drewL ?_ | refine ex_appR ?_ _ | refine ex_wx ?_ _ | refine ex_drew ?_ | refine ex_alloc ?_ _)))).trans hV5.out)
          have b65 := (HPo.out _ _ _ (show Ex wr _ from (by (try show Ex _ _); with_reducible repeat (first | exact ex_refl _ | assumption | refine ex_drewL ?_ | refine ex_appR ?_ _ | refine ex_wx ?_ _ | refine ex_drew ?_ | refine ex_alloc ?_ _))) hV5.out g6 z6 nw6).trans HBc.out
          have n36 : ¬ L3.own g6 := hV5.out.notown (by have := ex_size (show Ex wr (wx wr X4) from ⟨X4, rfl⟩); omega) (HP1.out _ nw6)
          have k05 : Hid (Ex w0 w5) := Lib.hid (ex_of_below ((ex_below k0).trans (VT.out.below (ex_size k0) Ho.out)))
          clear HAt HR2 HEx HPo n6 f6 z6 q2 q3 hV5 HBc nw6 HP1 n26 HVw HDw K0w HVC HF
          replace hres := Lib.hid hres
          by_cases he2 : e2 = 0
          · subst he2
            have hln2 := hln rfl
            clear hln
            have HWh : Hid (Calls Tryd.prog 43 #[.slice l2a l2.length l2c] w5 (PostWh w5 (wholeW l2))) := Lib.hid (whole_any l2 _ (SlV1.of_own KK_len (by omega) hO5.out) (by rw [hln2]; omega))
            obtain ⟨rw2, hrw⟩ : ∃ rw2, wholeW l2 = rw2 := ⟨_, rfl⟩
            rw [hrw] at HWh
            have Hrw := Lib.hid hrw
            replace hln2 := Lib.hid hln2
            clear hrw hO5 hG5
            go_wp2_with (go_at_call 43; (with_reducible refine HWh.out.mono ?_); rintro e w6 ⟨sv, ok, rfl, ⟨X6, rfl⟩, hok, hSh⟩; replace hok := Lib.hid hok; obtain ⟨sa, sc, rfl, _⟩ := hSh.form; have HSh := Lib.hid hSh.sh; clear hSh)
            obtain ⟨sh, hsh⟩ : ∃ sh, rw2.getD [] = sh := ⟨_, rfl⟩
            rw [hsh] at HSh ⊢
            replace hsh := Lib.hid hsh
            refine wp_worldW fun C2 hC2 => ?_
            have kC2 : Ex (wx w5 X6) C2 := by rw [← hC2]; exact (by (try show Ex _ _); with_reducible repeat (first | exact ex_refl _ | assumption | refine ex_drewL ?_ | refine ex_appR ?_ _ | refine ex_wx ?_ _ | refine ex_drew ?_ | refine ex_alloc ?_ _))
            have b13 : C2.heap[(wx w5 X6).heap.size]? = some (.cells (rowB 4 (gF (markL HW []))) 60 (0, 0)) := by rw [← hC2, ← mark_zero]; exact ex_block (w := (wx w5 X6).alloc (.cells #[.int .u8 0, .int .u8 0, .int .u8 0, .int .u8 0] 60)) (by (try show Ex _ _); with_reducible repeat (first | exact ex_refl _ | assumption | refine ex_drewL ?_ | refine ex_appR ?_ _ | refine ex_wx ?_ _ | refine ex_drew ?_ | refine ex_alloc ?_ _)) (heap_alloc_new _ _)
            clear hC2
            rw [wx_size] at b13
            obtain ⟨g13, hg13⟩ : ∃ g, w5.heap.size + X6.blocks.length = g := ⟨_, rfl⟩
            rw [hg13] at b13 ⊢
            have k5C : Ex w5 C2 := ex_trans ⟨X6, rfl⟩ kC2
            have z65 := (Array.getElem?_eq_some_iff.1 b65).1
            have h613 : g6 ≠ g13 := by omega
            have n313 : ¬ L3.own g13 := fun e => by have := hD5.out.lt e; omega
            have hSC := HSh.out.ky (Ky.ex kC2)
            have HSC := Lib.hid hSC
            have HB13 := Lib.hid b13
            have HB6C := Lib.hid (ex_block k5C b65)
            have HDC5 := Lib.hid (hD5.out.ex k5C)
            have HVC5 := Lib.hid (VT.out.grow k5C)
            have HKC5 := Lib.hid (ex_trans k05.out k5C)
            have hwC2 : w5.heap.size ≤ g13 := by omega
            have k05' := k05.out
            have hV05 := VT.out.size
            clear hg13 HSh b65 hD5 VT k05 kC2 k5C b13 HWh
            have hshf : sh.length ≤ 1000 ∧ ∀ b ∈ sh, b.length ≤ 50000 := by
              rw [← hsh.out]
              cases hw9 : rw2 with
              | none => exact ⟨by simp, by simp⟩
              | some s9 =>
                have q := wholeW_facts (Hrw.out.trans hw9)
                have := hln2.out
                exact ⟨by show s9.length ≤ 1000; omega, q.2⟩
            obtain ⟨hshl, hshb⟩ := hshf
            have Hshb := Lib.hid hshb
            obtain ⟨n, hn⟩ : ∃ n, sh.length = n := ⟨_, rfl⟩
            have Hn := Lib.hid hn
            rw [hn] at hshl hSC ⊢
            have hscb : n ≤ sc := by
              obtain ⟨_, _, hv9, q1, _, _, _⟩ := HSC.out.out
              obtain ⟨_, _, e9⟩ := Value.slice.inj hv9
              have := Hn.out
              omega
            clear hn hshb hSC
            go_loopw [77] (fun i W => ∃ k : Nat, k ≤ n ∧ i = I k ∧ Hid (W.heap[g13]? = some (.cells (rowB 4 (gF (markL HW (sh.take k)))) 60 (0, 0))) ∧ Hid (Frm (fun b => b = g13) C2 W)) (fun i _ => n - (intOf i).toNat)
            case atStart => exact ⟨0, by omega, rfl, Lib.hid (by rw [List.take_zero]; exact HB13.out), Lib.hid (Frm.refl _ _)⟩
            case round =>
              obtain ⟨w9, rfl⟩ : ∃ w9, w9 = wr := ⟨_, rfl⟩
              obtain ⟨k, hk, rfl, HBm, HFm⟩ := hrel
              have hky := Frm.ky HFm.out HB13.out (by decide) (by decide)
              have HSw := Lib.hid (HSC.out.ky hky)
              have hb := HBm.out
              obtain ⟨n13, f13, z13⟩ := block_cellsF (n := 4) hb (by simp)
              have hFs := HFm.out.size
              have k09 : Ex w0 w9 := ex_of_below ((ex_below HKC5.out).trans (HFm.out.below (ex_size HKC5.out) fun b e => by rw [e]; exact Nat.le_trans (ex_size k05') hwC2))
              by_cases hlt : k < n
              · have hsk : k < sh.length := by rw [Hn.out]; exact hlt
                have hS' := HSw.out
                rw [Hn.out] at hS'
                obtain ⟨gs, os, rfl, hgs, u, hu, htu⟩ := HSw.out.at (j := k) hsk
                obtain ⟨b, hbb⟩ : ∃ b, sh.getD k [] = b := ⟨_, rfl⟩
                rw [hbb] at htu
                have hbl : b.length ≤ 50000 := by
                  rw [← hbb, List.getD_eq_getElem?_getD, List.getElem?_eq_getElem hsk]
                  exact Hshb.out _ (List.getElem_mem hsk)
                obtain ⟨ua, uc, rfl, _⟩ := htu.out
                obtain ⟨mk, hmk⟩ : ∃ mk, markL HW (sh.take k) = mk := ⟨_, rfl⟩
                rw [hmk] at hb n13
                have hml : mk.length = 4 := by rw [← hmk]; exact mark_len HW_len _
                have hms : markL HW (sh.take (k + 1)) = HW (mk ++ b) := by
                  rw [← hmk, ← hbb]
                  unfold markL
                  rw [List.take_succ_eq_append_getElem hsk, List.foldl_append, List.getD_eq_getElem?_getD, List.getElem?_eq_getElem hsk]; rfl
                have HDg : Hid (∀ w' g, Ex w9 w' → w'.cell? ⟨g, 0, none⟩ = some (.slice (some ⟨g13, 0, none⟩) 4 4) → w'.cell? ⟨g, 1, none⟩ = some (.slice ua b.length uc) → Calls Tryd.prog 34 #[.slice (some ⟨g, 0, none⟩) 2 2] w' (Post w' (.agg (rowB 4 (gF (HW (mk ++ b))))))) := Lib.hid fun w' g x q1 q2 => by
                  have hb' := ex_block x hb
                  refine digest2_any G (ex_trans k09 x) q1 q2 ⟨_, 4, by rw [hml], by rw [hml]; omega, by decide, (fun e => by cases e), SlB.mk' (Array.getElem?_eq_some_iff.1 hb').1 fun j hj => ?_⟩ (htu.slt.ex x) (by rw [hml]; omega)
                  rw [hml] at hj
                  rw [Nat.zero_add, cell_of_row w' g13 j _ _ _ hb', rowB_get, if_pos hj]
                have h6 := setCells_block g13 60 (0, 0) (rowB 4 (gF (HW (mk ++ b)))).toList 0 w9 _ hb
                rw [spliceA_all _ _ (by simp), Array.toArray_toList] at h6
                have H6 : Hid ((w9.setCells g13 0 (rowB 4 (gF (HW (mk ++ b)))).toList).heap[g13]? = some (.cells (rowB 4 (gF (markL HW (sh.take (k + 1))))) 60 (0, 0))) := Lib.hid (by rw [hms]; exact h6)
                have Hms := Lib.hid hms
                have hkn : (k : Int) < n := by omega
                clear hb h6 hms hbb hmk htu hS' HBm k09
                rw [Hn.out] at HSw
                go_wp2_with (go_at_call 34; (with_reducible refine (HDg.out _ _ (by (try show Ex _ _); with_reducible repeat (first | exact ex_refl _ | assumption | refine ex_drewL ?_ | refine ex_appR ?_ _ | refine ex_wx ?_ _ | refine ex_drew ?_ | refine ex_alloc ?_ _)) (by simp [go_sem]) (by simp [go_sem])).mono ?_); rintro e w2 ⟨rfl, X7, rfl⟩)
                refine ⟨⟨k + 1, by omega, by go_num, Lib.hid (ex_block (w := w9.setCells g13 0 (rowB 4 (gF (HW (mk ++ b)))).toList) (by (try show Ex _ _); with_reducible repeat (first | exact ex_refl _ | assumption | refine ex_drewL ?_ | refine ex_appR ?_ _ | refine ex_wx ?_ _ | refine ex_drew ?_ | refine ex_alloc ?_ _)) H6.out), Lib.hid ((HFm.out.sets (b := g13) rfl 0 (rowB 4 (gF (HW (mk ++ b)))).toList).trans (Frm.ex (w := w9.setCells g13 0 (rowB 4 (gF (HW (mk ++ b)))).toList) (by (try show Ex _ _); with_reducible repeat (first | exact ex_refl _ | assumption | refine ex_drewL ?_ | refine ex_appR ?_ _ | refine ex_wx ?_ _ | refine ex_drew ?_ | refine ex_alloc ?_ _))))⟩, by simp [intOf]; omega⟩
              · obtain rfl : k = n := by omega
                rw [List.take_of_length_le (Nat.le_of_eq Hn.out)] at hb n13
                have HDw := Lib.hid (HDC5.out.frm HFm.out fun b hb e => n313 (by rw [← e]; exact hb))
                have HVw := Lib.hid (HVC5.out.frm HFm.out fun b e => by rw [e]; exact Nat.le_trans hV05 hwC2)
                have hb6 := (HFm.out.same g6 (Array.getElem?_eq_some_iff.1 HB6C.out).1 h613).trans HB6C.out
                have q0 := (block_cellF (o := 0) (v := U4 c.turn) hb6 rfl)
                obtain ⟨q0, qf0⟩ := q0
                have q4 := (block_cellF (o := 4) (v := U4 c.all) hb6 rfl).1
                have q5 : cellsN w9 g6 5 4 = some (rowB 4 (gF c.mark)) := cellsN_some.2 ⟨by simp, fun j hj => by
                  rw [cell_of_row w9 g6 (5 + j) _ _ _ hb6]
                  match j, hj with
                  | 0, _ => rfl
                  | 1, _ => rfl
                  | 2, _ => rfl
                  | 3, _ => rfl⟩
                have z6 := (Array.getElem?_eq_some_iff.1 hb6).1
                have hgood : ∀ s9, ok = true → goodC HW c l2 = s9 → s9 = if sh.length = c.all ∧ markL HW sh = c.mark ∧ c.turn ≠ 1073741824 then some sh else none := fun s9 hk9 e9 => by
                  rw [← e9]
                  unfold goodC
                  have h1 := hok.out
                  rw [hk9] at h1
                  obtain ⟨s8, h8⟩ := Option.isSome_iff_exists.1 h1.symm
                  have h7 := hsh.out
                  rw [h8] at h7
                  have h7 : s8 = sh := h7
                  rw [Hrw.out, h8, h7]
                have hbad : ok = false → goodC HW c l2 = none := fun hk9 => by
                  unfold goodC
                  have h1 := hok.out
                  rw [hk9] at h1
                  have h8 : rw2 = none := by
                    cases rw2 with
                    | none => rfl
                    | some x => cases h1
                  rw [Hrw.out, h8]
                have Hgood := Lib.hid hgood
                have Hbad := Lib.hid hbad
                have hmkl : (markL HW sh).length = 4 := mark_len HW_len sh
                have hmeq : eqF (gF (markL HW sh)) (gF c.mark) 4 = decide (markL HW sh = c.mark) := by
                  rw [Bool.eq_iff_iff, eqF_true, decide_eq_true_eq]
                  refine ⟨fun h => ?_, fun h i _ => by rw [h]⟩
                  apply List.ext_getElem (by rw [hmkl, cm])
                  intro i h1 h2
                  have := h i (by omega)
                  unfold gF at this
                  rw [List.getD_eq_getElem?_getD, List.getD_eq_getElem?_getD, List.getElem?_eq_getElem h1, List.getElem?_eq_getElem h2] at this
                  exact this
                have HN5 := Lib.hid n13
                have Hb6 := Lib.hid hb6
                obtain ⟨eq5, heq5⟩ : ∃ eq5, eqF (gF (markL HW sh)) (gF c.mark) 4 = eq5 := ⟨_, rfl⟩
                rw [heq5] at hmeq
                have Hmeq := Lib.hid hmeq
                have Heq5 := heq5
                have herr : Hid (∀ W', goodC HW c l2 = none → Dv L w L3 W' → DkAt W' L3 d2 → PostOp w L (open2 HW d1 (headsC HW d1.has.length [s0, s1])) (.returned (.tuple #[.pointer none, I 140])) W') := Lib.hid fun W' h9 hv hd => by
                  rw [Hh1.out, hres.out]
                  simp only [if_true]
                  show PostOp w L (open3 HW d2 c (goodC HW c l2)) _ _
                  rw [h9]
                  exact PostOp.err hd hv
                clear hgood hbad hb hb6 hmeq hmkl hlt hk HB6C HBm heq5
                cases ok with
                | false =>
                  clear n13 q5
                  go_wp2
                  go_ret2
                  exact herr.out _ (by first | exact Hbad.out rfl | exact Hbad.out trivial) HVw.out HDw.out
                | true =>
                  have hg9 : goodC HW c l2 = if sh.length = c.all ∧ markL HW sh = c.mark ∧ c.turn ≠ 1073741824 then some sh else none := (by first | exact Hgood.out _ rfl rfl | exact Hgood.out _ trivial rfl)
                  by_cases m1 : sh.length = c.all
                  · have u1 : ((k : Int) != (c.all : Int)) = false := by simp; have := Hn.out; omega
                    have u2 : ((k : Int) == (c.all : Int)) = true := by simp; have := Hn.out; omega
                    cases eq5 with
                    | false =>
                      have h10 : goodC HW c l2 = none := by rw [hg9, if_neg]; rintro ⟨_, h, _⟩; have := Hmeq.out; rw [h] at this; simp at this
                      replace h10 := Lib.hid h10
                      clear hg9 m1
                      go_wp2
                      go_ret2
                      exact herr.out _ h10.out HVw.out HDw.out
                    | true =>
                      have m2 : markL HW sh = c.mark := of_decide_eq_true Hmeq.out.symm
                      by_cases m3 : c.turn = 1073741824
                      · have h10 : goodC HW c l2 = none := by rw [hg9, if_neg]; rintro ⟨_, _, h⟩; exact h m3
                        replace h10 := Lib.hid h10
                        have u3 : ((c.turn : Int) == 1073741824) = true := by simp; omega
                        clear hg9 m1 m2
                        go_wp2
                        go_ret2
                        exact herr.out _ h10.out HVw.out HDw.out
                      · have h10 : goodC HW c l2 = some sh := by rw [hg9, if_pos ⟨m1, m2, m3⟩]
                        replace h10 := Lib.hid h10
                        have u3 : ((c.turn : Int) == 1073741824) = false := by simp; omega
                        clear hg9 m1 m2
                        obtain ⟨gW, hgW⟩ : ∃ gW, w9.heap.size = gW := ⟨_, rfl⟩
                        obtain ⟨WA, hWA⟩ : ∃ WA, (w9.setCell ⟨g6, 0, none⟩ (.int .u32 ((c.turn : Int) + 1))).alloc (.cells (WR zeroC L.p (.slice sa k sc) false) 64) = WA := ⟨_, rfl⟩
                        have h6b := setCell_block (o := 0) (.int .u32 ((c.turn : Int) + 1)) Hb6.out
                        have hcu : (CR c).setIfInBounds 0 (.int .u32 ((c.turn : Int) + 1)) = CR (upC c) := by
                          show #[.int .u32 ((c.turn : Int) + 1), U4 c.n, U4 c.side, U4 c.used, U4 c.all, B (gF c.mark 0), B (gF c.mark 1), B (gF c.mark 2), B (gF c.mark 3)] = #[U4 (c.turn + 1), U4 c.n, U4 c.side, U4 c.used, U4 c.all, B (gF c.mark 0), B (gF c.mark 1), B (gF c.mark 2), B (gF c.mark 3)]
                          unfold U4
                          push_cast
                          rfl
                        rw [hcu] at h6b
                        have n6 := (block_cellsF (n := 9) h6b rfl).1
                        have hzs : (w9.setCell ⟨g6, 0, none⟩ (.int .u32 ((c.turn : Int) + 1))).heap.size = gW := by rw [← hgW]; simp [World.setCell]
                        have hbW : WA.heap[gW]? = some (.cells (WR zeroC L.p (.slice sa k sc) false) 64 (0, 0)) := by
                          rw [← hWA, ← hzs]; exact heap_alloc_new _ _
                        have F1 : Frm (fun b => b = g6) w9 WA := by rw [← hWA]; exact Frm.trans (b := w9.setCell ⟨g6, 0, none⟩ (.int .u32 ((c.turn : Int) + 1))) ((Frm.refl (fun b => b = g6) w9).set (b := g6) rfl 0 _) (Frm.ex (ex_alloc (ex_refl _) _))
                        have hDA : DkAt WA L3 d2 := HDw.out.frm F1 fun b hb e => n36 (by rw [← e]; exact hb)
                        have hVA : Dv L w L3 WA := HVw.out.frm F1 fun b e => by rw [e]; exact hw6
                        have hSA : SlSh WA (.slice sa k sc) sh := by
                          have := HSw.out.ky (Frm.ky F1 Hb6.out (by decide) (by decide))
                          rwa [Hn.out] at this
                        have k0A : Ex w0 WA := ex_of_below ((ex_below k09).trans (F1.below (ex_size k09) fun b e => by rw [e]; exact Nat.le_trans (ex_size k0) hw6))
                        have hnW : ¬ L3.own gW := fun e => by have := HDw.out.lt e; omega
                        have hops2 : d2.ops + 2 < 1000000000 := by omega
                        have hq2 : d2.qu.length + 1 < 1000000 := by rw [ro3]; omega
                        have hcB : CmB (upC c) := ⟨by show c.turn + 1 < _; omega, by show c.n < _; omega, by show c.side < _; omega, by show c.used < _; omega, ca2, cm⟩
                        obtain ⟨rh, hrh⟩ : ∃ rh, headD HW d2 (upC c) = rh := ⟨_, rfl⟩
                        have HHf : Hid (Calls Tryd.prog 39 #[PT gW, .agg (CR (upC c))] WA (fun e w' => ∃ bw bc, e = .returned (.func (.func 64) #[] #[PT bw, PT bc]) ∧ Hid (Ex WA w' ∧ w'.heap[bw]? = some (.cells #[PT gW] 24 (0, 0)) ∧ w'.heap[bc]? = some (.cells (CR (upC c)) 62 (0, 0)) ∧ WA.heap.size ≤ bw ∧ WA.heap.size ≤ bc))) := Lib.hid ((headf_any gW (upC c) WA).mono fun e w' hh => by
                          obtain ⟨rfl, rfl⟩ := hh
                          refine ⟨_, _, rfl, Lib.hid ⟨ex_alloc (ex_alloc (ex_refl _) _) _, ex_block (ex_alloc (ex_refl _) _) (heap_alloc_new _ _), ?_, Nat.le_refl _, Nat.le_succ _⟩⟩
                          have := heap_alloc_new (WA.alloc (.cells #[PT gW] 24)) (.cells (CR (upC c)) 62)
                          rwa [World.size_alloc] at this)
                        have HH1 : Hid (∀ W' bw bc, Hid (Ex WA W' ∧ W'.heap[bw]? = some (.cells #[PT gW] 24 (0, 0)) ∧ W'.heap[bc]? = some (.cells (CR (upC c)) 62 (0, 0)) ∧ WA.heap.size ≤ bw ∧ WA.heap.size ≤ bc) →
                            Calls Tryd.prog 64 #[PT bw, PT bc] W' (fun e w' => ∃ L', e = .returned (I rh.2) ∧ Hid (Dv L w L' w' ∧ DkAt w' L' rh.1 ∧ (rh.2 = 0 → LgM w' gW L' rh.1 ⟨upC c, sh, false⟩)))) := Lib.hid fun W' bw bc hh => by
                          obtain ⟨x1, x2, x3, x4, x5⟩ := hh.out
                          have hlt : ∀ x, L3.own x → x < WA.heap.size := fun x hx => hDA.lt hx
                          refine (head1_any G (ex_trans k0A x1) (hDA.ex x1) gW bw bc (upC c) zeroC (.slice sa k sc) false hcB (by rw [HVw.out.pp]; exact ex_block x1 hbW) x2 x3 hnW (fun e => by have := hlt _ e; omega) (fun e => by have := hlt _ e; omega) hops2 hq2).mono fun e w' hp => ?_
                          obtain ⟨L', he9, hd9, hv9, hb9⟩ := hp
                          rw [hrh] at he9 hd9 hb9
                          have hv8 := (Wv.ofDv (p := gW) (hVA.grow x1)).trans hv9
                          have zW : gW < W'.heap.size := (Array.getElem?_eq_some_iff.1 (ex_block x1 hbW)).1
                          refine ⟨L', he9, Lib.hid ⟨hv8.dv (by rw [← hgW]; exact HVw.out.size), hd9, fun h0 => ⟨hd9, ⟨_, by rw [hv9.pp]; rw [if_pos h0] at hb9; exact hb9, (hSA.ky (Ky.ex x1)).ky (hv9.ky (hDA.ex x1) (ex_block x1 hbW))⟩, fun e => (hv9.own e).elim hnW fun e2 => by omega⟩⟩⟩
                        have hfinal : Hid (∀ W', (∃ L', Hid (Dv L w L' W' ∧ DkAt W' L' rh.1 ∧ (rh.2 = 0 → LgM W' gW L' rh.1 ⟨upC c, sh, false⟩))) → PostOp w L (open2 HW d1 (headsC HW d1.has.length [s0, s1])) (.returned (.tuple #[if rh.2 = 0 then PT gW else .pointer none, I rh.2])) W') := Lib.hid fun W' hh => by
                          obtain ⟨L', hh⟩ := hh
                          obtain ⟨y1, y2, y3⟩ := hh.out
                          rw [Hh1.out, hres.out]
                          simp only [if_true]
                          show PostOp w L (open3 HW d2 c (goodC HW c l2)) _ _
                          rw [h10.out]
                          show PostOp w L ((headD HW d2 (upC c)).1, (if (headD HW d2 (upC c)).2 = 0 then some ⟨upC c, sh, false⟩ else none), (headD HW d2 (upC c)).2) _ _
                          rw [hrh]
                          by_cases h0 : rh.2 = 0
                          · rw [if_pos h0, if_pos h0]
                            exact ⟨_, L', rfl, y1, y2, gW, rfl, y3 h0, by rw [← hgW]; exact HVw.out.size⟩
                          · rw [if_neg h0, if_neg h0]
                            exact ⟨_, L', rfl, y1, y2, rfl⟩
                        obtain ⟨d9, er⟩ := rh
                        dsimp only at HH1 hfinal
                        have HWA := Lib.hid hWA
                        clear hVA hDA hSA k0A hbW F1 hzs h6b hcB hrh hWA
                        by_cases her : er = 0
                        · subst her
                          go_wp2_with (first | (go_at_call 39; (first | rw [HWA.out] | skip); (with_reducible refine HHf.out.mono ?_); rintro e w7 ⟨bw, bc, rfl, hq⟩) | (go_at_call 64; (with_reducible refine (HH1.out _ _ _ hq).mono ?_); rintro e w8 ⟨L4, rfl, hy⟩))
                          go_ret2
                          exact hfinal.out _ ⟨L4, hy⟩
                        · have he8 : (er == 0) = false := beq_eq_false_iff_ne.2 her
                          have he9 : (er != 0) = true := by simp [her]
                          rw [if_neg her] at hfinal
                          go_wp2_with (first | (go_at_call 39; (first | rw [HWA.out] | skip); (with_reducible refine HHf.out.mono ?_); rintro e w7 ⟨bw, bc, rfl, hq⟩) | (go_at_call 64; (with_reducible refine (HH1.out _ _ _ hq).mono ?_); rintro e w8 ⟨L4, rfl, hy⟩))
                          go_ret2
                          exact hfinal.out _ ⟨L4, hy⟩
                  · have h10 : goodC HW c l2 = none := by rw [hg9, if_neg (fun h => m1 h.1)]
                    replace h10 := Lib.hid h10
                    have u1 : ((k : Int) != (c.all : Int)) = true := by simp; have := Hn.out; omega
                    have u2 : ((k : Int) == (c.all : Int)) = false := by simp; have := Hn.out; omega
                    clear hg9 m1 n13 q5
                    go_wp2
                    go_ret2
                    exact herr.out _ h10.out HVw.out HDw.out
          · have he3 : (e2 != 0) = true := by simp [he2]
            have he4 : (e2 == 0) = false := beq_eq_false_iff_ne.2 he2
            clear hO5 hG5
            go_wp2
            go_ret2
            rw [Hh1.out, hres.out, if_neg he2]
            exact PostOp.err hD5.out VT.out
  · rw [if_neg he]
    have he2 : (e1 != 0) = true := by simp [he]
    have he3 : (e1 == 0) = false := beq_eq_false_iff_ne.2 he
    go_enter Tryd.func9, Tryd.ntmps9
    go_wp2_with (go_at_call 40; (with_reducible refine HR1.out.mono ?_); rintro e w2 ⟨lv, L2, rfl, hD2, hV2, hO2, hG2⟩; obtain ⟨la, lc, rfl, _⟩ := own_form9 hO2; replace hD2 := Lib.hid hD2; replace hV2 := Lib.hid hV2)
    go_ret2
    exact PostOp.err hD2.out hV2.out
end Go.Proofs.YtabjamkkhlbajaaDoor

/- The log: Format. -/
set_option linter.unusedSimpArgs false
set_option linter.unusedVariables false
set_option linter.unnecessarySimpa false
set_option maxRecDepth 20000
namespace Go.Proofs.YtabjamkkhlbajaaDoor
open Go.RowKit
theorem thenD_ne {r : Dk × Int} {f : Dk → Dk × Int} (h : r.2 ≠ 0) : thenD r f = r := by unfold thenD; rw [if_neg h]
theorem thenD_eq {r : Dk × Int} {f : Dk → Dk × Int} (h : r.2 = 0) : thenD r f = f r.1 := by unfold thenD; rw [if_pos h]
theorem sync_ops (d : Dk) : (syncD d).1.ops ≤ d.ops + 1 ∧ (syncD d).1.qu.length ≤ d.qu.length := by
  rcases sync_cases d with ⟨_, _, g2, g3⟩ | ⟨_, _, g2, g3⟩
  · rw [g2, g3]; exact ⟨by omega, Nat.le_refl _⟩
  · rw [g2, g3]; exact ⟨Nat.le_refl _, by simp⟩
/-- Sectors that are to be written, as a closure has them. -/
structure WrF (W w' : World) (p at_ : Nat) (lv : Value) (a b c : Nat) : Prop where
  ex : Ex W w'
  ba : w'.heap[a]? = some (.cells #[lv] 69 (0, 0))
  bb : w'.heap[b]? = some (.cells #[PT p] 24 (0, 0))
  bc : w'.heap[c]? = some (.cells #[I at_] 3 (0, 0))
  za : W.heap.size ≤ a
  zb : W.heap.size ≤ b
  zc : W.heap.size ≤ c
theorem writes_o (p at_ : Nat) (lv : Value) (hlv : lv.oneCell' = true) (w : World) : Calls Tryd.prog 36 #[PT p, I at_, lv] w
    (fun e w' => ∃ a b c, e = .returned (.func (.func 58) #[] #[PT a, PT b, PT c]) ∧ Hid (WrF w w' p at_ lv a b c)) := by
  refine (writes_any p at_ lv hlv w).mono fun e w' hh => ?_
  obtain ⟨rfl, rfl⟩ := hh
  refine ⟨_, _, _, rfl, Lib.hid ⟨ex_alloc (ex_alloc (ex_alloc (ex_refl _) _) _) _, ?_, ?_, ?_, by omega, Nat.le_refl _, by omega⟩⟩
  · have := heap_alloc_new ((w.alloc (.cells #[PT p] 24)).alloc (.cells #[I at_] 3)) (.cells #[lv] 69)
    simpa only [World.size_alloc] using this
  · exact ex_block (ex_alloc (ex_alloc (ex_refl _) _) _) (heap_alloc_new w _)
  · have := ex_block (ex_alloc (ex_refl _) (.cells #[lv] 69)) (heap_alloc_new (w.alloc (.cells #[PT p] 24)) (.cells #[I at_] 3))
    simpa only [World.size_alloc] using this
/-- A head that is to be laid, as a closure has it. -/
structure HdF (W w' : World) (p : Nat) (c : Cm) (x y : Nat) : Prop where
  ex : Ex W w'
  bx : w'.heap[x]? = some (.cells #[PT p] 24 (0, 0))
  by' : w'.heap[y]? = some (.cells (CR c) 62 (0, 0))
  zx : W.heap.size ≤ x
  zy : W.heap.size ≤ y
theorem headf_o (p : Nat) (c : Cm) (w : World) : Calls Tryd.prog 39 #[PT p, .agg (CR c)] w
    (fun e w' => ∃ x y, e = .returned (.func (.func 64) #[] #[PT x, PT y]) ∧ Hid (HdF w w' p c x y)) := by
  refine (headf_any p c w).mono fun e w' hh => ?_
  obtain ⟨rfl, rfl⟩ := hh
  refine ⟨_, _, rfl, Lib.hid ⟨ex_alloc (ex_alloc (ex_refl _) _) _, ex_block (ex_alloc (ex_refl _) _) (heap_alloc_new _ _), ?_, Nat.le_refl _, Nat.le_succ _⟩⟩
  have := heap_alloc_new (w.alloc (.cells #[PT p] 24)) (.cells (CR c) 62)
  rwa [World.size_alloc] at this
section
variable {W6 : World} {L : Loc} {g : Nat} {Q : Int → World → Prop} {rest : List Fv}
theorem allq_wr {a b c p at_ : Nat} {lv : Value} {bs : List Bk} (hg : g < W6.heap.size) (ng : ¬ L.own g) (ha : W6.heap[a]? = some (.cells #[lv] 69 (0, 0))) (hb : W6.heap[b]? = some (.cells #[PT p] 24 (0, 0)))
    (hc : W6.heap[c]? = some (.cells #[I at_] 3 (0, 0))) (hp : W6.cell? ⟨p, 9, none⟩ = some (PT L.p)) (hs : SlV1 KK 64 W6 lv bs) (n1 : ¬ L.own a) (n2 : ¬ L.own b) (n3 : ¬ L.own c) (n4 : ¬ L.own p) (n5 : ∀ g, lv.ownBlock = some g → ¬ L.own g ∧ g < W6.heap.size) (hat : at_ ≤ 1000000)
    {W : World} {L1 : Loc} {d1 : Dk} (hD : DkAt W L1 d1) (hV : Dv L W6 L1 W) (hops : d1.ops + bs.length < 1000000000) (hq : d1.qu.length + bs.length < 1000000)
    (hne : ∀ W' L', DkAt W' L' (writesD d1 at_ bs).1 → Dv L W6 L' W' → (writesD d1 at_ bs).2 ≠ 0 → Q (writesD d1 at_ bs).2 W')
    (heq : ∀ W' L', DkAt W' L' (writesD d1 at_ bs).1 → Dv L W6 L' W' → (writesD d1 at_ bs).2 = 0 → AllQ g Q rest W') : AllQ g Q (.wr a b c :: rest) W := by
  have za := (Array.getElem?_eq_some_iff.1 ha).1
  have zb := (Array.getElem?_eq_some_iff.1 hb).1
  have zc := (Array.getElem?_eq_some_iff.1 hc).1
  have zp := cellW_lt hp
  have hcp : W.cell? ⟨p, 9, none⟩ = some (PT L1.p) := by rw [hV.pp, ← hp]; simp only [World.cell?, hV.same p zp n4]
  refine (writes1_any hD a b c p lv bs at_ ((hV.same a za n1).trans ha) ((hV.same b zb n2).trans hb) ((hV.same c zc n3).trans hc) hcp (hs.keep hV.size fun g hg => hV.same g (n5 g hg).2 (n5 g hg).1) (hV.notown za n1) (hV.notown zb n2) (hV.notown zc n3) (hV.notown zp n4) (fun g hg => ⟨hV.notown (n5 g hg).2 (n5 g hg).1, Nat.lt_of_lt_of_le (n5 g hg).2 hV.size⟩) hops hq hat).mono fun e w' hh => ?_
  obtain ⟨L', rfl, k1, k2⟩ := hh
  have k3 := hV.trans k2
  exact ⟨_, rfl, (k3.same g hg ng).trans (hV.same g hg ng).symm, fun h => hne w' L' k1 k3 h, fun h => heq w' L' k1 k3 h⟩
theorem allq_sy (hg : g < W6.heap.size) (ng : ¬ L.own g) {W : World} {L1 : Loc} {d1 : Dk} (hD : DkAt W L1 d1) (hV : Dv L W6 L1 W) (hops : d1.ops < 1000000000)
    (hne : ∀ W' L', DkAt W' L' (syncD d1).1 → Dv L W6 L' W' → (syncD d1).2 ≠ 0 → Q (syncD d1).2 W')
    (heq : ∀ W' L', DkAt W' L' (syncD d1).1 → Dv L W6 L' W' → (syncD d1).2 = 0 → AllQ g Q rest W') : AllQ g Q (.sy L.p :: rest) W := by
  have hsy := sync_any hD hops
  rw [hV.pp] at hsy
  refine hsy.mono fun e w' hh => ?_
  obtain ⟨L', rfl, k1, k2⟩ := hh
  have k3 := hV.trans k2
  exact ⟨_, rfl, (k3.same g hg ng).trans (hV.same g hg ng).symm, fun h => hne w' L' k1 k3 h, fun h => heq w' L' k1 k3 h⟩
end
/-- What a new log's five things lead to. -/
def PostFm (gW : Nat) (L : Loc) (w : World) (n : Nat) (d : Dk) (sv : Value) (e : Ending) (w' : World) : Prop :=
  ∃ L', e = .returned (I (fmtD HW d n).2) ∧ DkAt w' L' (fmtD HW d n).1 ∧ Wv gW L w L' w' ∧ w'.heap[gW]? = some (.cells (WR (if (fmtD HW d n).2 = 0 then firstC HW n else zeroC) L.p sv false) 64 (0, 0))
theorem fm_all {w0 A W6 : World} (G : Glob w0) (k0 : Ex w0 A) {L : Loc} {d : Dk} (hD : DkAt A L d) (k : Ex A W6) (gW g a b c a' b' c' x y n : Nat) (lv0 lv1 sv : Value) (hn : n ≤ 1000)
    (hg : W6.heap[g]? = some (.cells ([Fv.wr a b c, .sy L.p, .wr a' b' c', .sy L.p, .hd x y].map valF).toArray 67 (0, 0)))
    (ha : W6.heap[a]? = some (.cells #[lv0] 69 (0, 0))) (hb : W6.heap[b]? = some (.cells #[PT gW] 24 (0, 0))) (hc : W6.heap[c]? = some (.cells #[I ((0 : Nat) : Int)] 3 (0, 0)))
    (ha' : W6.heap[a']? = some (.cells #[lv1] 69 (0, 0))) (hb' : W6.heap[b']? = some (.cells #[PT gW] 24 (0, 0))) (hc' : W6.heap[c']? = some (.cells #[I ((2 : Nat) : Int)] 3 (0, 0)))
    (hx : W6.heap[x]? = some (.cells #[PT gW] 24 (0, 0))) (hy : W6.heap[y]? = some (.cells (CR (firstC HW n)) 62 (0, 0))) (hp : W6.heap[gW]? = some (.cells (WR zeroC L.p sv false) 64 (0, 0)))
    (s0 : SlV1 KK 64 W6 lv0 [zeroB, zeroB]) (s1 : SlV1 KK 64 W6 lv1 (sheetB [])) (z : ∀ i ∈ [g, a, b, c, a', b', c', x, y], A.heap.size ≤ i) (nW : ¬ L.own gW)
    (l0 : ∀ i, lv0.ownBlock = some i → A.heap.size ≤ i ∧ i < W6.heap.size) (l1 : ∀ i, lv1.ownBlock = some i → A.heap.size ≤ i ∧ i < W6.heap.size)
    (hops : d.ops + 100 < 1000000000) (hq : d.qu.length + 100 < 1000000) (ho : ∀ x, L.own x → w0.heap.size ≤ x) :
    Calls Tryd.prog 35 #[.slice (some ⟨g, 0, none⟩) 5 5] W6 (PostFm gW L W6 n d sv) := by
  have hown : ∀ i, A.heap.size ≤ i → ¬ L.own i := fun i hi e => by have := hD.lt e; omega
  have hz : ∀ i ∈ [g, a, b, c, a', b', c', x, y], ¬ L.own i := fun i hi => hown i (z i hi)
  have zg := (Array.getElem?_eq_some_iff.1 hg).1
  have zx := (Array.getElem?_eq_some_iff.1 hx).1
  have zy := (Array.getElem?_eq_some_iff.1 hy).1
  have zW := (Array.getElem?_eq_some_iff.1 hp).1
  have ng := hz g (by simp)
  have hp9 := (block_cellF (o := 9) (v := PT L.p) hp rfl).1
  refine (all_any (Q := fun e w' => e = (fmtD HW d n).2 ∧ PostFm gW L W6 n d sv (.returned (I (fmtD HW d n).2)) w') [Fv.wr a b c, .sy L.p, .wr a' b' c', .sy L.p, .hd x y] W6 g 5 rfl (by omega) hg ?_).mono fun e w' ⟨c9, he, hc9, h1⟩ => by rw [he, hc9]; exact h1
  have fin : ∀ (r : Dk × Int), fmtD HW d n = r → r.2 ≠ 0 → ∀ W' L', DkAt W' L' r.1 → Dv L W6 L' W' → (r.2 = (fmtD HW d n).2 ∧ PostFm gW L W6 n d sv (.returned (I (fmtD HW d n).2)) W') := fun r hr hne W' L' k1 k2 => by
    rw [hr]
    refine ⟨rfl, L', by rw [hr], by rw [hr]; exact k1, Wv.ofDv k2, ?_⟩
    rw [hr, if_neg hne]
    exact (k2.same gW zW nW).trans hp
  have hsl : (sheetB []).length = 1 := by rw [sheetB_len]; rfl
  have o1 := writes_ops [zeroB, zeroB] d ((0 : Nat) : Int)
  simp only [List.length_cons, List.length_nil] at o1
  have e0 : fmtD HW d n = thenD (thenD (thenD (thenD (writesD d ((0 : Nat) : Int) [zeroB, zeroB]) syncD) fun d => writesD d ((2 : Nat) : Int) (sheetB [])) syncD) fun d => headD HW d (firstC HW n) := rfl
  refine allq_wr zg ng ha hb hc hp9 s0 (hz a (by simp)) (hz b (by simp)) (hz c (by simp)) nW (fun i hi => ⟨hown i (l0 i hi).1, (l0 i hi).2⟩) (by omega) (hD.ex k) (Dv.refl _ _) (by simp only [List.length_cons, List.length_nil]; omega) (by simp only [List.length_cons, List.length_nil]; omega) (fun W' L' k1 k2 hne => fin _ (by rw [e0, thenD_ne hne, thenD_ne hne, thenD_ne hne, thenD_ne hne]) hne W' L' k1 k2) fun W1 L1 k1 k2 h1 => ?_
  rw [thenD_eq h1] at e0
  have o2 := sync_ops (writesD d ((0 : Nat) : Int) [zeroB, zeroB]).1
  generalize (writesD d ((0 : Nat) : Int) [zeroB, zeroB]).1 = d1 at *
  refine allq_sy zg ng k1 k2 (by omega) (fun W' L' k1 k2 hne => fin _ (by rw [e0, thenD_ne hne, thenD_ne hne, thenD_ne hne]) hne W' L' k1 k2) fun W2 L2 k3 k4 h2 => ?_
  rw [thenD_eq h2] at e0
  generalize (syncD d1).1 = d2 at *
  have o3 := writes_ops (sheetB []) d2 ((2 : Nat) : Int)
  rw [hsl] at o3
  refine allq_wr zg ng ha' hb' hc' hp9 s1 (hz a' (by simp)) (hz b' (by simp)) (hz c' (by simp)) nW (fun i hi => ⟨hown i (l1 i hi).1, (l1 i hi).2⟩) (by omega) k3 k4 (by rw [hsl]; omega) (by rw [hsl]; omega) (fun W' L' k1 k2 hne => fin _ (by rw [e0, thenD_ne hne, thenD_ne hne]) hne W' L' k1 k2) fun W3 L3 k5 k6 h3 => ?_
  rw [thenD_eq h3] at e0
  have o4 := sync_ops (writesD d2 ((2 : Nat) : Int) (sheetB [])).1
  generalize (writesD d2 ((2 : Nat) : Int) (sheetB [])).1 = d3 at *
  refine allq_sy zg ng k5 k6 (by omega) (fun W' L' k1 k2 hne => fin _ (by rw [e0, thenD_ne hne]) hne W' L' k1 k2) fun W4 L4 k7 k8 h4 => ?_
  rw [thenD_eq h4] at e0
  generalize (syncD d3).1 = d4 at *
  have k04 : Ex w0 W4 := ex_of_below ((ex_below (ex_trans k0 k)).trans (k8.below (ex_size (ex_trans k0 k)) ho))
  have hcB : CmB (firstC HW n) := ⟨by show 1 < 4294967296; omega, by show n < _; omega, by show 0 < 4294967296; omega, by show 1 < 4294967296; omega, by show 1 < 4294967296; omega, HW_len _⟩
  refine (head1_any G k04 k7 gW x y (firstC HW n) zeroC sv false hcB (by rw [k8.pp]; exact (k8.same gW zW nW).trans hp) ((k8.same x zx (hz x (by simp))).trans hx) ((k8.same y zy (hz y (by simp))).trans hy) (k8.notown zW nW) (k8.notown zx (hz x (by simp))) (k8.notown zy (hz y (by simp))) (by omega) (by omega)).mono fun e w' hh => ?_
  obtain ⟨L', he, hd, hv, hb9⟩ := hh
  rw [k8.pp] at hb9
  have hvv := (Wv.ofDv (p := gW) k8).trans hv
  refine ⟨_, he, ?_, fun _ => ?_, fun _ => ?_⟩
  · refine hv.fr.same g (Nat.lt_of_lt_of_le zg k8.size) fun e => ?_
    rcases e with e | e
    · have h8 := k8.same gW zW nW
      rw [hp, ← e] at h8
      have h9 := (k8.same g zg ng).trans hg
      rw [h8] at h9
      injection h9 with h9
      injection h9 with _ ht _
      exact absurd ht (by decide)
    · exact k8.notown zg ng e
  · rw [e0]
    exact ⟨rfl, L', by rw [e0], by rw [e0]; exact hd, hvv, by rw [e0]; exact hb9⟩
  · rename_i h0
    unfold AllQ
    rw [e0]
    exact ⟨h0.symm, L', by rw [e0], by rw [e0]; exact hd, hvv, by rw [e0]; exact hb9⟩
end Go.Proofs.YtabjamkkhlbajaaDoor

/- The log: Format, walked. -/
set_option linter.unusedSimpArgs false
set_option linter.unusedVariables false
set_option linter.unnecessarySimpa false
set_option maxRecDepth 20000
namespace Go.Proofs.YtabjamkkhlbajaaDoor
open Go.RowKit
def build5Run (P : Program) (t : TypeId) (v0 v1 v3 v4 v5 : Value) (w : World) : Result Next := ((Instr.build t #[(0, v0), (1, v1), (3, v3), (4, v4), (5, v5)]).run P w).andThen fun x w' => .ok (.value x) w'
@[go_sem ↓ high] theorem run_build5_pre {P : Program} (ρ : Operand → Value) (d : Option Tmp) (t : TypeId) (x0 x1 x3 x4 x5 : Operand) (ty : TypeId) (pos : String) (aft : Array Edge) (g : Option (Nat × Bool)) (w : World) :
    Sem.run P (execOp ρ ⟨d, .build t #[(0, x0), (1, x1), (3, x3), (4, x4), (5, x5)], ty, pos, aft, g⟩) w = build5Run P t (ρ x0) (ρ x1) (ρ x3) (ρ x4) (ρ x5) w := by
  simp only [execOp, Sem.run_bind, Sem.run_pure, build5Run, List.map_toArray, List.map_cons, List.map_nil]
@[go_sem low] theorem build5Run_other {P : Program} (t : TypeId) (v0 v1 v3 v4 v5 : Value) (w : World) : build5Run P t v0 v1 v3 v4 v5 w = ((Instr.build t #[(0, v0), (1, v1), (3, v3), (4, v4), (5, v5)]).run P w).andThen fun x w' => .ok (.value x) w' := rfl
theorem built5_claim (n : Int) (f : Nat → UInt8) : Tryd.prog.built 62 [(0, .int .u32 1), (1, .int .u32 n), (3, .int .u32 1), (4, .int .u32 1), (5, .agg (rowB 4 f))] = some #[.int .u32 1, .int .u32 n, .int .u32 0, .int .u32 1, .int .u32 1, B (f 0), B (f 1), B (f 2), B (f 3)] := by kernel_rfl
@[go_sem] theorem build5_claim (n : Int) (f : Nat → UInt8) (w : World) : build5Run Tryd.prog 62 (.int .u32 1) (.int .u32 n) (.int .u32 1) (.int .u32 1) (.agg (rowB 4 f)) w = .ok (.value (.agg #[.int .u32 1, .int .u32 n, .int .u32 0, .int .u32 1, .int .u32 1, B (f 0), B (f 1), B (f 2), B (f 3)])) w := by
  unfold build5Run
  rw [run_build w _ _ _ (built5_claim n f)]; rfl
theorem first_row (n : Nat) : (#[.int .u32 1, .int .u32 (n : Int), .int .u32 0, .int .u32 1, .int .u32 1, B (gF (HW [0, 0, 0, 0]) 0), B (gF (HW [0, 0, 0, 0]) 1), B (gF (HW [0, 0, 0, 0]) 2), B (gF (HW [0, 0, 0, 0]) 3)] : Array Value) = CR (firstC HW n) := rfl
set_option maxHeartbeats 1000000 in
theorem format_any {w0 w : World} (G : Glob w0) (k0 : Ex w0 w) {L : Loc} {d : Dk} (h : DkAt w L d) (n : Int) (ho : ∀ x, L.own x → w0.heap.size ≤ x) (hops : d.ops + 4000 < 1000000000) (hq : d.qu.length + 2000 < 1000000) :
    Calls Tryd.prog 8 #[PT L.p, I n] w (PostOp w L (formatD HW d n)) := by
  have HMy : Hid (Calls Tryd.prog 33 #[PT L.p, I n] w (Post w (.bool (mayI d n)))) := Lib.hid (may_any h n)
  have HD := Lib.hid h
  have Ho := Lib.hid ho
  by_cases hm : mayI d n = true
  · have hfd : formatD HW d n = ((fmtD HW d n.toNat).1, (if (fmtD HW d n.toNat).2 = 0 then some ⟨firstC HW n.toNat, [[]], false⟩ else none), (fmtD HW d n.toNat).2) := by unfold formatD; rw [if_pos hm]
    replace hfd := Lib.hid hfd
    rw [hm] at HMy
    have hm2 := hm
    unfold mayI at hm2
    simp only [Bool.and_eq_true, decide_eq_true_eq] at hm2
    obtain ⟨⟨m1, m2⟩, _⟩ := hm2
    obtain ⟨m, rfl⟩ : ∃ m : Nat, n = m := ⟨n.toNat, by omega⟩
    rw [Int.toNat_natCast] at hfd
    have em : (m : Int) % 4294967296 = m := by omega
    clear h ho hm
    have HDg : Hid (∀ w' g g0, Ex w w' → (w'.cell? ⟨g0, 0, none⟩ = some (.int .u8 0) ∧ w'.cell? ⟨g0, 1, none⟩ = some (.int .u8 0) ∧ w'.cell? ⟨g0, 2, none⟩ = some (.int .u8 0) ∧ w'.cell? ⟨g0, 3, none⟩ = some (.int .u8 0)) → w'.cell? ⟨g, 0, none⟩ = some (.slice (some ⟨g0, 0, none⟩) 4 4) → Calls Tryd.prog 34 #[.slice (some ⟨g, 0, none⟩) 1 1] w' (Post w' (.agg (rowB 4 (gF (HW [0, 0, 0, 0])))))) := Lib.hid fun w' g g0 k hb hc =>
      digest1_any G (ex_trans k0 k) hc ⟨_, 4, rfl, by decide, by decide, (fun e => by cases e), SlB.mk' (cellW_lt hb.1) fun j hj => by
        have hj : j < 4 := hj
        rw [Nat.zero_add]
        match j, hj with
        | 0, _ => exact hb.1
        | 1, _ => exact hb.2.1
        | 2, _ => exact hb.2.2.1
        | 3, _ => exact hb.2.2.2⟩ (by decide)
    go_enter Tryd.func8, Tryd.ntmps8
    go_wp2_with (first | (go_at_call 33; (with_reducible refine HMy.out.mono ?_); rintro e w2 ⟨rfl, X2, rfl⟩) | (go_at_call 34; (with_reducible refine (HDg.out _ _ (w.heap.size + X2.blocks.length + 1 + 1) (by (try show Ex _ _); with_reducible repeat (first | exact ex_refl _ | assumption | refine ex_drewL ?_ | refine ex_appR ?_ _ | refine ex_wx ?_ _ | refine ex_drew ?_ | refine ex_alloc ?_ _)) (by simp [go_sem, bn]) (by simp [go_sem])).mono ?_); rintro e w3 ⟨rfl, X3, rfl⟩))
    refine wp_worldW fun A hA => ?_
    have kA : Ex w A := by rw [← hA]; exact (by (try show Ex _ _); with_reducible repeat (first | exact ex_refl _ | assumption | refine ex_drewL ?_ | refine ex_appR ?_ _ | refine ex_wx ?_ _ | refine ex_drew ?_ | refine ex_alloc ?_ _))
    have hbS : A.heap[w.heap.size + X2.blocks.length]? = some (.cells #[.slice none 0 0] 22 (0, 0)) := by
      rw [← hA, ← wx_size w X2]
      exact ex_block (w := (wx w X2).alloc (.cells #[.slice none 0 0] 22)) (by (try show Ex _ _); with_reducible repeat (first | exact ex_refl _ | assumption | refine ex_drewL ?_ | refine ex_appR ?_ _ | refine ex_wx ?_ _ | refine ex_drew ?_ | refine ex_alloc ?_ _)) (heap_alloc_new _ _)
    have hbW : A.heap[w.heap.size + X2.blocks.length + 1]? = some (.cells (WR zeroC L.p (.slice (some ⟨w.heap.size + X2.blocks.length, 0, none⟩) 1 1) false) 64 (0, 0)) := by
      rw [← hA]
      refine ex_block (w := ((wx w X2).alloc (.cells #[.slice none 0 0] 22)).alloc (.cells (WR zeroC L.p (.slice (some ⟨w.heap.size + X2.blocks.length, 0, none⟩) 1 1) false) 64)) (by (try show Ex _ _); with_reducible repeat (first | exact ex_refl _ | assumption | refine ex_drewL ?_ | refine ex_appR ?_ _ | refine ex_wx ?_ _ | refine ex_drew ?_ | refine ex_alloc ?_ _)) ?_
      rw [← wx_size w X2, ← World.size_alloc (wx w X2) (.cells #[.slice none 0 0] 22)]
      exact heap_alloc_new _ _
    have hb7 : A.heap[w.heap.size + X2.blocks.length + 1 + 1 + 1 + 1 + X3.blocks.length]? = some (.cells (CR (firstC HW m)) 62 (0, 0)) := by
      rw [← hA, ← first_row]
      have := heap_alloc_new (wx (((((wx w X2).alloc (.cells #[.slice none 0 0] 22)).alloc (.cells (WR zeroC L.p (.slice (some ⟨w.heap.size + X2.blocks.length, 0, none⟩) 1 1) false) 64)).alloc (.cells (rowB 4 fun _ => 0) 5)).alloc (.cells #[.slice (some ⟨w.heap.size + X2.blocks.length + 1 + 1, 0, none⟩) 4 4] 22)) X3) (.cells #[.int .u32 1, .int .u32 (m : Int), .int .u32 0, .int .u32 1, .int .u32 1, B (gF (HW [0, 0, 0, 0]) 0), B (gF (HW [0, 0, 0, 0]) 1), B (gF (HW [0, 0, 0, 0]) 2), B (gF (HW [0, 0, 0, 0]) 3)] 62)
      simpa only [World.size_alloc, wx_size] using this
    clear hA
    obtain ⟨gS, hgS⟩ : ∃ g, w.heap.size + X2.blocks.length = g := ⟨_, rfl⟩
    rw [hgS] at hbS hbW hb7 ⊢
    obtain ⟨g7, hg7⟩ : ∃ g, gS + 1 + 1 + 1 + 1 + X3.blocks.length = g := ⟨_, rfl⟩
    rw [hg7] at hb7 ⊢
    obtain ⟨gW, hgW⟩ : ∃ g, gS + 1 = g := ⟨_, rfl⟩
    rw [hgW] at hbW ⊢
    have hw9 : w.heap.size ≤ gW ∧ gW ≠ g7 := by omega
    have HDA := Lib.hid (HD.out.ex kA)
    have k0A := Lib.hid (ex_trans k0 kA)
    have nW : ¬ L.own gW := fun e => by have := HD.out.lt e; omega
    have n7 : ¬ L.own g7 := fun e => by have := HD.out.lt e; omega
    obtain ⟨P1, hP1⟩ : ∃ P1 : Nat → Prop, P1 = fun x => x = gW ∨ L.own x := ⟨_, rfl⟩
    have np7 : ¬ P1 g7 := by rw [hP1]; exact fun e => e.elim (fun e => hw9.2 e.symm) n7
    have HP1 : Hid (∀ x, ¬ P1 x → ¬ (x = gW ∨ L.own x)) := Lib.hid (by rw [hP1]; exact fun x hx => hx)
    obtain ⟨c7, f7, z7⟩ := block_cellsF (n := 9) hb7 rfl
    have HbW := Lib.hid hbW
    have HbS := Lib.hid hbS
    have HW0 : Hid (∀ w' lv, lv.oneCell' = true → Calls Tryd.prog 36 #[PT gW, .int .i64 0, lv] w' (fun e w2 => ∃ a b c, e = .returned (.func (.func 58) #[] #[PT a, PT b, PT c]) ∧ Hid (WrF w' w2 gW 0 lv a b c))) := Lib.hid fun w' lv h => writes_o gW 0 lv h w'
    have HW2 : Hid (∀ w' lv, lv.oneCell' = true → Calls Tryd.prog 36 #[PT gW, .int .i64 2, lv] w' (fun e w2 => ∃ a b c, e = .returned (.func (.func 58) #[] #[PT a, PT b, PT c]) ∧ Hid (WrF w' w2 gW 2 lv a b c))) := Lib.hid fun w' lv h => writes_o gW 2 lv h w'
    have HHd := Lib.hid fun w' => headf_o gW (firstC HW m) w'
    have HSn : Hid (∀ w', Calls Tryd.prog 38 #[.slice none 0 0] w' (fun e w2 => ∃ v', e = .returned v' ∧ w2.ownsRow w'.heap.size 75 64 v' (sheetB []).length ((sheetB []).flatMap KK) ∧ ∃ X, w2 = wx w' X)) := Lib.hid fun w' => sheet_any (slt_nil w') (by simp)
    have HAl : Hid (∀ (W3 W4 W5 W6 W7 V4 V6 V7 : World) (g a b c a' b' c' x y Zb : Nat) (lv1 : Value), Ex (A.alloc (.cells (manyC (.agg (rowB 64 fun _ => 0)) 128) 75)) W3 → Hid (WrF W3 W4 gW 0 (.slice (some ⟨A.heap.size, 0, none⟩) 2 2) a b c) → Ex W4 V4 → Hid (W5.ownsRow Zb 75 64 lv1 (sheetB []).length ((sheetB []).flatMap KK)) → Zb = V4.heap.size → Ex V4 W5 → Hid (WrF W5 W6 gW 2 lv1 a' b' c') → Ex W6 V6 → Hid (HdF V6 W7 gW (firstC HW m) x y) → Ex W7 V7 → g = V7.heap.size →
        Calls Tryd.prog 35 #[.slice (some ⟨g, 0, none⟩) 5 5] (V7.alloc (.cells ([Fv.wr a b c, .sy L.p, .wr a' b' c', .sy L.p, .hd x y].map valF).toArray 67)) (fun e w' => ∃ L', e = .returned (I (fmtD HW d m).2) ∧ Hid (DkAt w' L' (fmtD HW d m).1 ∧ Wv gW L A L' w' ∧ w'.heap[gW]? = some (.cells (WR (if (fmtD HW d m).2 = 0 then firstC HW m else zeroC) L.p (.slice (some ⟨gS, 0, none⟩) 1 1) false) 64 (0, 0))))) := Lib.hid fun W3 W4 W5 W6 W7 V4 V6 V7 g a b c a' b' c' x y Zb lv1 x3 h1 x4 h2 hZb x5 h3 x6 h4 x7 hg => by
      subst hg
      have h1 := h1.out
      have h2 := h2.out
      have h3 := h3.out
      have h4 := h4.out
      have e0 := ex_size x3
      rw [World.size_alloc] at e0
      have e1 := ex_size h1.ex
      have e2 := ex_size x4
      have e3 := ex_size x5
      have e4 := ex_size h3.ex
      have e5 := ex_size x6
      have e6 := ex_size h4.ex
      have e7 := ex_size x7
      have q1 := h1.za
      have q2 := h1.zb
      have q3 := h1.zc
      have q4 := h3.za
      have q5 := h3.zb
      have q6 := h3.zc
      have q7 := h4.zx
      have q8 := h4.zy
      have k5 : Ex W7 (V7.alloc (.cells ([Fv.wr a b c, .sy L.p, .wr a' b' c', .sy L.p, .hd x y].map valF).toArray 67)) := ex_alloc x7 _
      have k4 := ex_trans x6 (ex_trans h4.ex k5)
      have k3 := ex_trans h3.ex k4
      have k2 := ex_trans x4 (ex_trans x5 k3)
      have k1 := ex_trans x3 (ex_trans h1.ex k2)
      have kAA : Ex A _ := ex_trans (ex_alloc (ex_refl A) _) k1
      have hl1 : ∀ i, lv1.ownBlock = some i → Zb ≤ i ∧ i < W5.heap.size := fun i hi => World.ownsRow.lt h2 i hi
      refine (fm_all (lv0 := .slice (some ⟨A.heap.size, 0, none⟩) 2 2) (lv1 := lv1) (sv := .slice (some ⟨gS, 0, none⟩) 1 1) G k0A.out HDA.out kAA gW V7.heap.size a b c a' b' c' x y m (by omega) (heap_alloc_new _ _) (ex_block k2 h1.ba) (ex_block k2 h1.bb) (ex_block k2 h1.bc) (ex_block k4 h3.ba) (ex_block k4 h3.bb) (ex_block k4 h3.bc) (ex_block k5 h4.bx) (ex_block k5 h4.by') (ex_block kAA HbW.out) (SlV1.of_own KK_len (by omega) (own_zero 2 (by omega) rfl k1)) (SlV1.of_own KK_len (by omega) (owns_ex h2 k3)) ?_ nW ?_ ?_ (by omega) (by omega) Ho.out).mono fun e w' hh => ?_
      · intro i hi
        simp only [List.mem_cons, List.not_mem_nil, or_false] at hi
        omega
      · intro i hi
        obtain rfl : A.heap.size = i := Option.some.inj hi
        exact ⟨Nat.le_refl _, by rw [World.size_alloc]; omega⟩
      · intro i hi
        have := hl1 i hi
        exact ⟨by omega, by rw [World.size_alloc]; omega⟩
      · obtain ⟨L', e0, y1, y2, y3⟩ := hh
        exact ⟨L', e0, Lib.hid ⟨y1, (Wv.ofDv (Dv.ofEx kAA)).trans y2, y3⟩⟩
    clear hb7 hbW hbS hgS hg7 hgW hP1 n7
    obtain ⟨rh, hrh⟩ : ∃ rh, fmtD HW d m = rh := ⟨_, rfl⟩
    rw [hrh] at HAl hfd
    clear hrh
    unfold valF at HAl
    simp only [List.map_cons, List.map_nil] at HAl
    refine wp_region_forkH (fun w' => ∃ X, w' = kp A P1 X) (.look 0 (.look 3 (.look 4 (.look 5 (.look 8 (.look 9 (.look 10 (.look 11 (.eff 1 (.eff 2 (.eff 6 (.eff 7 (.eff 12 (.eff 13 (.eff 14 (.look 15 .done)))))))))))))))) (⟨_, kp_of (fun _ _ _ => rfl)⟩) (by kernel_rfl) (by kernel_rfl) (fun _ _ d _ _ h => by cases d <;> exact h) ?_
    simp only [Fk.ops, nth]
    repeat (first | ((with_reducible refine wpForkH_look ?_); go_big_quiet_step (fail); (try (with_reducible refine wpQuiet_nil ?_))) | (with_reducible refine wpForkH_eff ?_) | ((with_reducible refine effH_F ?_ ?_); (focus rfl); go_simp) | ((with_reducible refine effH_T ?_ ?_); (focus rfl); (try dsimp only); go_wp2_with (first | (go_at_call 36; (with_reducible refine (HW0.out _ _ rfl).mono ?_); rintro e w4 ⟨a1, b1, c1, rfl, h1⟩; have kx1 : Ex A w4 := ex_trans (by (try show Ex _ _); with_reducible repeat (first | exact ex_refl _ | assumption | refine ex_drewL ?_ | refine ex_appR ?_ _ | refine ex_wx ?_ _ | refine ex_drew ?_ | refine ex_alloc ?_ _)) h1.out.ex) | (go_at_call 36; (with_reducible refine (HW2.out _ _ rfl).mono ?_); rintro e w6 ⟨a2, b2, c2, rfl, h3⟩; have kx3 : Ex A w6 := ex_trans (by (try show Ex _ _); with_reducible repeat (first | exact ex_refl _ | assumption | refine ex_drewL ?_ | refine ex_appR ?_ _ | refine ex_wx ?_ _ | refine ex_drew ?_ | refine ex_alloc ?_ _)) h3.out.ex) | (go_at_call 38; (with_reducible refine (HSn.out _).mono ?_); rintro e w5 ⟨lv, rfl, hlv, X5, rfl⟩; obtain ⟨al, cl, rfl, _⟩ := own_form9 hlv; replace hlv := Lib.hid hlv) | (go_at_call 39; (with_reducible refine (HHd.out _).mono ?_); rintro e w7 ⟨x1, y1, rfl, h4⟩; have kx4 : Ex A w7 := ex_trans (by (try show Ex _ _); with_reducible repeat (first | exact ex_refl _ | assumption | refine ex_drewL ?_ | refine ex_appR ?_ _ | refine ex_wx ?_ _ | refine ex_drew ?_ | refine ex_alloc ?_ _)) h4.out.ex) | (go_at_call 35; (refine (HAl.out _ _ _ _ _ _ _ _ _ a1 b1 c1 a2 b2 c2 x1 y1 _ _ (by (try show Ex _ _); with_reducible repeat (first | exact ex_refl _ | assumption | refine ex_drewL ?_ | refine ex_appR ?_ _ | refine ex_wx ?_ _ | refine ex_drew ?_ | refine ex_alloc ?_ _)) h1 (by (try show Ex _ _); with_reducible repeat (first | exact ex_refl _ | assumption | refine ex_drewL ?_ | refine ex_appR ?_ _ | refine ex_wx ?_ _ | refine ex_drew ?_ | refine ex_alloc ?_ _)) hlv rfl (by (try show Ex _ _); with_reducible repeat (first | exact ex_refl _ | assumption | refine ex_drewL ?_ | refine ex_appR ?_ _ | refine ex_wx ?_ _ | refine ex_drew ?_ | refine ex_alloc ?_ _)) h3 (by (try show Ex _ _); with_reducible repeat (first | exact ex_refl _ | assumption | refine ex_drewL ?_ | refine ex_appR ?_ _ | refine ex_wx ?_ _ | refine ex_drew ?_ | refine ex_alloc ?_ _)) h4 (by (try show Ex _ _); with_reducible repeat (first | exact ex_refl _ | assumption | refine ex_drewL ?_ | refine ex_appR ?_ _ | refine ex_wx ?_ _ | refine ex_drew ?_ | refine ex_alloc ?_ _)) rfl).mono ?_); rintro e w8 ⟨L2, rfl, hy⟩)); (first | done | refine mixQH_mk (⟨_, kp_of (by intro x hx hp9; first | (refine (ex_below (?_ : Ex A _)).block x hx; (with_reducible repeat (first | exact ex_refl _ | assumption | refine ex_drewL ?_ | refine ex_appR ?_ _ | refine ex_wx ?_ _ | refine ex_drew ?_ | refine ex_alloc ?_ _)); done) | exact hy.out.2.1.fr.same x hx (HP1.out x hp9))⟩) ?_)))
    all_goals (with_reducible refine wpForkH_nil ?_)
    have hVw := Lib.hid ((Wv.ofDv (p := gW) (L := L) (Dv.ofEx kA)).trans hy.out.2.1)
    have hSA : SlSh A (.slice (some ⟨gS, 0, none⟩) 1 1) [[]] := ⟨_, 1, rfl, Nat.le_refl _, by decide, (fun e => by cases e), Or.inr ⟨gS, 0, _, _, rfl, HbS.out, fun j l hl => by
      have hj : j < 1 := (List.getElem?_eq_some_iff.1 hl).1
      obtain rfl : j = 0 := by omega
      obtain rfl : [] = l := by simpa using hl
      exact ⟨.slice none 0 0, rfl, TyB.zero _ _⟩⟩⟩
    have HSA := Lib.hid (hSA.ky (hy.out.2.1.ky HDA.out HbW.out))
    have hno : Hid (¬ L2.own gW) := Lib.hid fun e => (hy.out.2.1.own e).elim nW fun e2 => by
      have := (Array.getElem?_eq_some_iff.1 HbW.out).1
      omega
    clear hSA c7 f7 z7
    obtain ⟨d9, er⟩ := rh
    dsimp only at hy hfd ⊢
    by_cases her : er = 0
    · subst her
      go_wp2
      go_ret2
      rw [hfd.out]
      have hb9 := hy.out.2.2
      simp only [if_true] at hb9 ⊢
      exact ⟨_, L2, rfl, hVw.out.dv hw9.1, hy.out.1, gW, rfl, ⟨hy.out.1, ⟨_, by rw [hVw.out.pp]; exact hb9, HSA.out⟩, hno.out⟩, hw9.1⟩
    · have u1 : (er != 0) = true := by simp [her]
      have u2 : (er == 0) = false := by simp [her]
      have Her := Lib.hid her
      clear her
      go_wp2
      go_ret2
      rw [hfd.out, if_neg Her.out]
      exact ⟨_, L2, rfl, hVw.out.dv hw9.1, hy.out.1, rfl⟩
  · have hfd : formatD HW d n = (d, none, 2) := by unfold formatD; rw [if_neg hm]
    rw [hfd]
    have hm2 : mayI d n = false := by simpa using hm
    rw [hm2] at HMy
    clear h ho hm hfd
    go_enter Tryd.func8, Tryd.ntmps8
    go_wp2_with (go_at_call 33; (with_reducible refine HMy.out.mono ?_); rintro e w2 ⟨rfl, X2, rfl⟩)
    go_ret2
    exact PostOp.err (HD.out.ex (by (try show Ex _ _); with_reducible repeat (first | exact ex_refl _ | assumption | refine ex_drewL ?_ | refine ex_appR ?_ _ | refine ex_wx ?_ _ | refine ex_drew ?_ | refine ex_alloc ?_ _))) (Dv.ofEx (by (try show Ex _ _); with_reducible repeat (first | exact ex_refl _ | assumption | refine ex_drewL ?_ | refine ex_appR ?_ _ | refine ex_wx ?_ _ | refine ex_drew ?_ | refine ex_alloc ?_ _)))
end Go.Proofs.YtabjamkkhlbajaaDoor

/- The log: a law's world: what its calls keep, and its disk and its log in it. -/
set_option linter.unusedSimpArgs false
set_option linter.unusedVariables false
set_option maxRecDepth 20000
namespace Go.Proofs.YtabjamkkhlbajaaDoor
open Go.RowKit
/-- The types whose blocks a disk and a log turn. -/
def Tz (t : TypeId) : Prop := t = 89 ∨ t = 75 ∨ t = 113 ∨ t = 64
theorem Tz.of3 {t : TypeId} (h : t = 89 ∨ t = 75 ∨ t = 113) : Tz t := h.elim Or.inl fun h => h.elim (fun h => Or.inr (Or.inl h)) fun h => Or.inr (Or.inr (Or.inl h))
/-- What the calls of a law keep. -/
structure Kz (Z : Nat) (W W' : World) : Prop where
  os : W'.os = W.os
  tape : W'.tape = W.tape
  output : W'.output = W.output
  size : W.heap.size ≤ W'.heap.size
  low : ∀ b, b < Z → b < W.heap.size → W'.heap[b]? = W.heap[b]?
  ty : ∀ (g : Nat) (cs : Array Value) (t : TypeId) (fr : Nat × Nat), W.heap[g]? = some (.cells cs t fr) → ¬ Tz t → W'.heap[g]? = some (.cells cs t fr)
theorem Kz.ofEx {Z : Nat} {W W' : World} (k : Ex W W') : Kz Z W W' := by
  have h := ex_below k
  exact ⟨h.os, h.tape, h.output, h.size, fun b _ hb => h.block b hb, fun g cs t fr hg _ => ex_block k hg⟩
theorem Kz.refl (Z : Nat) (W : World) : Kz Z W W := Kz.ofEx (ex_refl W)
theorem Kz.trans {Z : Nat} {A B C : World} (h : Kz Z A B) (k : Kz Z B C) : Kz Z A C :=
  ⟨k.os.trans h.os, k.tape.trans h.tape, k.output.trans h.output, Nat.le_trans h.size k.size, fun b h1 h2 => (k.low b h1 (Nat.lt_of_lt_of_le h2 h.size)).trans (h.low b h1 h2), fun g cs t fr hg ht => k.ty g cs t fr (h.ty g cs t fr hg ht) ht⟩
theorem Kz.ky {Z : Nat} {W W' : World} (k : Kz Z W W') : Ky W W' := fun g cs t fr hg ht => k.ty g cs t fr hg fun h => by
  unfold Tz at h
  rcases ht with rfl | rfl <;> exact absurd h (by decide)
theorem Kz.ex {w0 W W' : World} (k : Kz w0.heap.size W W') (h : Ex w0 W) : Ex w0 W' := by
  have hb := ex_below h
  exact ex_of_below ⟨k.os.trans hb.os, k.tape.trans hb.tape, k.output.trans hb.output, Nat.le_trans hb.size k.size, fun b h1 => (k.low b h1 (Nat.lt_of_lt_of_le h1 hb.size)).trans (hb.block b h1)⟩
theorem Kz.ofDv {Z : Nat} {L L' : Loc} {W W' : World} {d : Dk} (h : Dv L W L' W') (hd : DkAt W L d) (ho : ∀ x, L.own x → Z ≤ x) : Kz Z W W' :=
  ⟨h.os, h.tape, h.output, h.size, fun b h1 h2 => h.same b h2 fun e => by have := ho b e; omega, fun g cs t fr hg ht => by
    rw [h.same g (Array.getElem?_eq_some_iff.1 hg).1 fun e => ?_]
    · exact hg
    · obtain ⟨cs3, t3, fr3, h3, ht3⟩ := hd.types e
      rw [h3] at hg
      cases hg
      exact ht (Tz.of3 ht3)⟩
theorem Kz.ofWv {Z p : Nat} {L L' : Loc} {W W' : World} {d : Dk} {wl : Wl} (h : Wv p L W L' W') (hd : LgM W p L d wl) (ho : ∀ x, L.own x → Z ≤ x) (hp : Z ≤ p) : Kz Z W W' :=
  ⟨h.fr.os, h.fr.tape, h.fr.output, h.fr.size, fun b h1 h2 => h.fr.same b h2 fun e => e.elim (fun e => by omega) fun e => by have := ho b e; omega, fun g cs t fr hg ht => by
    rw [h.fr.same g (Array.getElem?_eq_some_iff.1 hg).1 fun e => ?_]
    · exact hg
    · rcases e with rfl | e
      · obtain ⟨sv, hb, _⟩ := hd.out
        rw [hb] at hg
        cases hg
        exact ht (Or.inr (Or.inr (Or.inr rfl)))
      · obtain ⟨cs3, t3, fr3, h3, ht3⟩ := hd.dk.types e
        rw [h3] at hg
        cases hg
        exact ht (Tz.of3 ht3)⟩
/-- A law's disk. -/
structure DkZ (Z : Nat) (W : World) (q : Nat) (d : Dk) : Prop where
  out : ∃ L, L.p = q ∧ DkAt W L d ∧ ∀ x, L.own x → Z ≤ x
/-- A law's log. -/
structure LgZ (Z : Nat) (W : World) (p q : Nat) (d : Dk) (wl : Wl) : Prop where
  out : ∃ L, L.p = q ∧ LgM W p L d wl ∧ (∀ x, L.own x → Z ≤ x) ∧ Z ≤ p
theorem LgM.dv {W W' : World} {p : Nat} {L L' : Loc} {d d' : Dk} {wl : Wl} (h : LgM W p L d wl) (k : Dv L W L' W') (hd : DkAt W' L' d') : LgM W' p L' d' wl := by
  obtain ⟨sv, h1, h2⟩ := h.out
  have hz := (Array.getElem?_eq_some_iff.1 h1).1
  refine ⟨hd, ⟨sv, ?_, h2.ky (Kz.ofDv (Z := 0) k h.dk fun _ _ => Nat.zero_le _).ky⟩, k.notown hz h.po⟩
  rw [k.pp, k.same p hz h.po]; exact h1
theorem LgZ.ex {Z : Nat} {W W' : World} {p q : Nat} {d : Dk} {wl : Wl} (h : LgZ Z W p q d wl) (k : Ex W W') : LgZ Z W' p q d wl := by
  obtain ⟨L, h1, h2, h3, h4⟩ := h.out
  exact ⟨L, h1, h2.ex k, h3, h4⟩
theorem DkZ.ex {Z : Nat} {W W' : World} {q : Nat} {d : Dk} (h : DkZ Z W q d) (k : Ex W W') : DkZ Z W' q d := by
  obtain ⟨L, h1, h2, h3⟩ := h.out
  exact ⟨L, h1, h2.ex k, h3⟩
theorem LgZ.dk {Z : Nat} {W : World} {p q : Nat} {d : Dk} {wl : Wl} (h : LgZ Z W p q d wl) : DkZ Z W q d := by
  obtain ⟨L, h1, h2, h3, h4⟩ := h.out
  exact ⟨L, h1, h2.dk, h3⟩
/-- Behind a call that puts. -/
def PostLz (Z : Nat) (W : World) (p q : Nat) (r : Dk × Wl × Int) (e : Ending) (W' : World) : Prop := e = .returned (I r.2.2) ∧ LgZ Z W' p q r.1 r.2.1 ∧ Kz Z W W'
theorem PostLz.of {Z : Nat} {W : World} {p : Nat} {L : Loc} {d : Dk} {wl : Wl} (h : LgM W p L d wl) (ho : ∀ x, L.own x → Z ≤ x) (hp : Z ≤ p) (hZ : Z ≤ W.heap.size) {r : Dk × Wl × Int} {e : Ending} {W' : World} (k : PostLg p L W r e W') : PostLz Z W p L.p r e W' := by
  obtain ⟨L', rfl, k1, k2⟩ := k
  exact ⟨rfl, ⟨L', k2.pp, k1, fun x hx => (k2.own hx).elim (ho x) fun h => by omega, hp⟩, Kz.ofWv k2 h ho hp⟩
section
variable {w0 W : World} (G : Glob w0) (k0 : Ex w0 W) {p q : Nat} {d : Dk} {wl : Wl}
include G k0
theorem app_z (h : LgZ w0.heap.size W p q d wl) (ok : LgOk wl) (v : Value) (b : By) (hs : TyB W v b) (hb : b.length ≤ 1000000) (hops : d.ops + 2000 < 1000000000) (hq : d.qu.length + 2000 < 1000000) :
    Calls Tryd.prog 13 #[PT p, v] W (PostLz w0.heap.size W p q (appD HW d wl b)) := by
  obtain ⟨L, rfl, h2, h3, h4⟩ := h.out
  exact (app_any G k0 h2 ok v b hs hb h3 h4 hops hq).mono fun e W' hh => PostLz.of h2 h3 h4 (ex_size k0) hh
theorem chk_z (h : LgZ w0.heap.size W p q d wl) (ok : LgOk wl) (v : Value) (b : By) (hs : TyB W v b) (hb : b.length ≤ 1000000) (hops : d.ops + 2000 < 1000000000) (hq : d.qu.length + 2000 < 1000000) :
    Calls Tryd.prog 14 #[PT p, v] W (PostLz w0.heap.size W p q (chkD HW d wl b)) := by
  obtain ⟨L, rfl, h2, h3, h4⟩ := h.out
  exact (chk_any G k0 h2 ok v b hs hb h3 h4 hops hq).mono fun e W' hh => PostLz.of h2 h3 h4 (ex_size k0) hh
/-- Behind a call that makes a log. -/
def PostOz (Z : Nat) (W : World) (q : Nat) (r : Dk × Option Wl × Int) (e : Ending) (W' : World) : Prop :=
  ∃ v, e = .returned (.tuple #[v, I r.2.2]) ∧ Kz Z W W' ∧ DkZ Z W' q r.1 ∧ match r.2.1 with
    | none => v = .pointer none
    | some wl => ∃ p, v = PT p ∧ LgZ Z W' p q r.1 wl
omit G k0 in
theorem PostOz.of {Z : Nat} {W : World} {L : Loc} {d : Dk} (h : DkAt W L d) (ho : ∀ x, L.own x → Z ≤ x) (hZ : Z ≤ W.heap.size) {r : Dk × Option Wl × Int} {e : Ending} {W' : World} (k : PostOp W L r e W') : PostOz Z W L.p r e W' := by
  obtain ⟨v, L', rfl, k1, k2, k3⟩ := k
  have ho' : ∀ x, L'.own x → Z ≤ x := fun x hx => (k1.own hx).elim (ho x) fun h => by omega
  refine ⟨v, rfl, Kz.ofDv k1 h ho, ⟨L', k1.pp, k2, ho'⟩, ?_⟩
  obtain ⟨a, b, c⟩ := r
  cases b with
  | none => exact k3
  | some wl =>
    obtain ⟨p, rfl, q1, q2⟩ := k3
    exact ⟨p, rfl, L', k1.pp, q1, ho', by omega⟩
theorem open_z (h : DkZ w0.heap.size W q d) (hops : d.ops + 4000 < 1000000000) (hq : d.qu.length + 2000 < 1000000) :
    Calls Tryd.prog 9 #[PT q] W (PostOz w0.heap.size W q (openD HW d)) := by
  obtain ⟨L, rfl, h2, h3⟩ := h.out
  exact (open_any G k0 h2 h3 hops hq).mono fun e W' hh => PostOz.of h2 h3 (ex_size k0) hh
theorem format_z (h : DkZ w0.heap.size W q d) (n : Int) (hops : d.ops + 4000 < 1000000000) (hq : d.qu.length + 2000 < 1000000) :
    Calls Tryd.prog 8 #[PT q, I n] W (PostOz w0.heap.size W q (formatD HW d n)) := by
  obtain ⟨L, rfl, h2, h3⟩ := h.out
  exact (format_any G k0 h2 n h3 hops hq).mono fun e W' hh => PostOz.of h2 h3 (ex_size k0) hh
end
/-- Behind a call that turns the disk beneath a log. -/
def PostFz (Z : Nat) (W : World) (p q : Nat) (d' : Dk) (wl : Wl) (v : Value) (e : Ending) (W' : World) : Prop := e = .returned v ∧ LgZ Z W' p q d' wl ∧ Kz Z W W'
/-- Behind a call that turns the disk. -/
def PostDz (Z : Nat) (W : World) (q : Nat) (d' : Dk) (v : Value) (e : Ending) (W' : World) : Prop := e = .returned v ∧ DkZ Z W' q d' ∧ Kz Z W W'
theorem PostFz.of {Z : Nat} {W : World} {p : Nat} {L : Loc} {d d' : Dk} {wl : Wl} {v : Value} (h : LgM W p L d wl) (ho : ∀ x, L.own x → Z ≤ x) (hp : Z ≤ p) (hZ : Z ≤ W.heap.size) {e : Ending} {W' : World} (k : PostD W L d' v e W') : PostFz Z W p L.p d' wl v e W' := by
  obtain ⟨L', rfl, k1, k2⟩ := k
  exact ⟨rfl, ⟨L', k2.pp, h.dv k2 k1, fun x hx => (k2.own hx).elim (ho x) fun h => by omega, hp⟩, Kz.ofDv k2 h.dk ho⟩
theorem PostDz.of {Z : Nat} {W : World} {L : Loc} {d d' : Dk} {v : Value} (h : DkAt W L d) (ho : ∀ x, L.own x → Z ≤ x) (hZ : Z ≤ W.heap.size) {e : Ending} {W' : World} (k : PostD W L d' v e W') : PostDz Z W L.p d' v e W' := by
  obtain ⟨L', rfl, k1, k2⟩ := k
  exact ⟨rfl, ⟨L', k2.pp, k1, fun x hx => (k2.own hx).elim (ho x) fun h => by omega⟩, Kz.ofDv k2 h ho⟩
section
variable {Z : Nat} {W : World} {p q : Nat} {d : Dk} {wl : Wl}
end
theorem new_z {w0 W : World} (k0 : Ex w0 W) (n : Nat) (h1 : 1 ≤ n) (h2 : n ≤ 2048) : Calls Tryd.prog 32 #[I n] W fun e w' => ∃ q, e = .returned (.tuple #[PT q, I 0]) ∧ DkZ w0.heap.size w' q (newD n) ∧ Ex W w' := by
  refine (new_any n h1 h2 W).mono fun e w' hh => ?_
  obtain ⟨L, rfl, k1, k2, k3⟩ := hh
  exact ⟨L.p, rfl, ⟨L, rfl, k1, fun b hb => Nat.le_trans (ex_size k0) (k3 b hb)⟩, k2⟩
section
variable {Z : Nat} {W : World} {p q : Nat} {d : Dk} {wl : Wl} (h : LgZ Z W p q d wl)
include h
theorem disk_z : Calls Tryd.prog 20 #[PT p] W (Post W (PT q)) := by
  obtain ⟨L, rfl, h2, h3, h4⟩ := h.out
  exact disk_w h2
theorem turn_z : Calls Tryd.prog 18 #[PT p] W (Post W (U4 wl.c.turn)) := by
  obtain ⟨L, rfl, h2, h3, h4⟩ := h.out
  exact turn_w h2
theorem left_z (ok : LgOk wl) : Calls Tryd.prog 17 #[PT p] W (Post W (I ((wl.c.n : Int) - wl.c.used))) := by
  obtain ⟨L, rfl, h2, h3, h4⟩ := h.out
  exact left_w h2 ok.un ok.n
theorem len_z : Calls Tryd.prog 16 #[PT p] W (Post W (I ((wl.sh.length : Int) - 1))) := by
  obtain ⟨L, rfl, h2, h3, h4⟩ := h.out
  exact len_w h2
theorem snap_z (h0 : 0 < wl.sh.length) (hb : (wl.sh.getD 0 []).length ≤ 50000) : Calls Tryd.prog 15 #[PT p] W (PostTb W (wl.sh.getD 0 [])) := by
  obtain ⟨L, rfl, h2, h3, h4⟩ := h.out
  exact snap_w h2 h0 hb
theorem rest_z (h0 : 0 < wl.sh.length) (hb : ∀ b ∈ wl.sh.tail, b.length ≤ 50000) (hn : wl.sh.length ≤ 1000) : Calls Tryd.prog 12 #[PT p] W (PostRt W wl.sh.tail) := by
  obtain ⟨L, rfl, h2, h3, h4⟩ := h.out
  exact rest_of _ _ (fun w' k => allw_any h2 k h0) hb (by rw [List.length_tail]; omega)
end
end Go.Proofs.YtabjamkkhlbajaaDoor

/- The log: what a log tells. -/
set_option linter.unusedSimpArgs false
set_option linter.unusedVariables false
set_option maxRecDepth 20000
namespace Go.Proofs.YtabjamkkhlbajaaDoor
open Go.RowKit
attribute [local go_sem] Oper.semAt_some
theorem heap_alloc_at {w : World} {o : Obj} {n : Nat} (h : n = w.heap.size) : (w.alloc o).heap[n]? = some o := by rw [h]; exact heap_alloc_new w o
theorem wpConsSh {ops : Array Oper} {rest : List Oper} {o : Oper} {a : Act} {w : World} {Q : Exit → Act → World → Prop} (s x : Operand) (hgd : o.guard = none)
    (ho : o.op = .call { callee := .builtin .append, args := #[s, x], argTypes := #[30, 30] })
    {g : Nat} {u : Value} {b : By} {fr : Nat × Nat} (hs : a.eval s = .slice (some ⟨g, 0, none⟩) 1 1) (hc : w.heap[g]? = some (.cells #[u] 22 fr)) (hu : TyB w u b)
    {vx : Value} {ls : List By} (hx : a.eval x = vx) (ht : SlSh w vx ls) (hn : ls.length ≤ 100000)
    (h : ∀ v' w', SlSh w' v' (b :: ls) → Ex w w' → wpList Tryd.prog ops Q rest (a.put o.dst v') w') : wpList Tryd.prog ops Q (o :: rest) a w := by
  obtain ⟨i, hi, h1', h2', h3'⟩ := info_parts appSh.hi
  have hcell : w.cell? ⟨g, 0, none⟩ = some u := by rw [cell_of_row w g 0 _ _ _ hc]; rfl
  rcases Nat.eq_zero_or_pos ls.length with h0 | h0
  · obtain rfl := List.eq_nil_of_length_eq_zero h0
    obtain ⟨ax, c, rfl, _, _, hno, _⟩ := ht.out
    have hsrc : Src Tryd.prog i.size 30 (.slice ax 0 c) 0 [] w := by
      cases ax with
      | none => exact Src.ofNil w (Tryd.underlying30) c
      | some ad => exact Src.ofSlice w (Tryd.underlying30) ad 0 c [] (by simp) (fun j u hj => by simp at hj) (fun u hu => by simp at hu)
    refine wpList_plain hgd fun K hK' => ?_
    have hrun := run_append_nothing (P := Tryd.prog) w 30 30 o.type 22 i (Tryd.underlying30) hi (some ⟨g, 0, none⟩) 1 1 (Nat.le_refl _) _ hsrc
    unfold Oper.wp
    simp only [List.length_nil] at hx
    simp [execOp, ho, resolve, invoke, builtin, hs, hx, hrun, Result.andThen]
    refine hK' _ _ (h _ _ ⟨_, 1, rfl, Nat.le_refl _, by decide, (fun e => by cases e), Or.inr ⟨g, 0, _, _, rfl, hc, fun j l hj => ?_⟩⟩ (ex_refl _))
    cases j with
    | zero => simp at hj; subst hj; exact ⟨u, rfl, hu⟩
    | succ j => simp at hj
  · obtain ⟨ax, c, rfl, h1, h2, hno, h4⟩ := ht.out
    rcases h4 with rfl | ⟨gx, off, cs, frx, rfl, hb, hcc⟩
    · simp at h0
    obtain ⟨news, q1, q2, q3⟩ := ht.olds (Nat.le_refl _)
    rw [List.take_length] at q3
    have hone : ∀ x ∈ news, x.oneCell' = true := fun x hx => by
      obtain ⟨j, hj⟩ := List.mem_iff_getElem?.1 hx
      have hjl : j < ls.length := by rw [← q1]; exact (List.getElem?_eq_some_iff.1 hj).1
      obtain ⟨y, e1, e2⟩ := q3 j _ (List.getElem?_eq_getElem hjl)
      rw [hj] at e1
      obtain rfl := Option.some.inj e1
      obtain ⟨ua, uc, rfl, _⟩ := e2.out
      rfl
    refine wpList_append_grows w hgd s x _ ho _ i _ _ _ appSh.ht hi h1' h2' h3' appSh.hzs appSh.hsz (some ⟨g, 0, none⟩) 1 1 [u] hs (fun e => by cases e) rfl (fun b' eb j x hj => ?_) ⟨gx, off, none⟩ ls.length c news hx (by rw [q1]; omega) q2 hone (by omega) (by unfold maxLen; omega) (by omega) fun v' w' k1 k2 => ?_
    · cases eb
      cases j with
      | zero => simp at hj; subst hj; exact hcell
      | succ j => simp at hj
    · have kx : Ex w w' := ex_of_below ⟨k2.os, k2.tape, k2.output, k2.size, fun b hb => k2.block b hb (fun e => by cases e)⟩
      refine h v' w' (slsh_own k1 (by rw [List.length_cons, Nat.add_comm]) fun j l hj => ?_) kx
      cases j with
      | zero => simp at hj; subst hj; exact ⟨u, rfl, hu.ky (Ky.ex kx)⟩
      | succ j =>
        rw [List.getElem?_cons_succ] at hj
        obtain ⟨y, e1, e2⟩ := q3 j l hj
        exact ⟨y, by simpa using e1, e2.ky (Ky.ex kx)⟩
/-- Behind told. -/
def PostSh (W : World) (ls : List By) (e : Ending) (w' : World) : Prop := ∃ v, e = .returned v ∧ SlSh w' v ls ∧ Ex W w'
def PostTo (W : World) (ls : List By) (e : Ending) (w' : World) : Prop := ∃ v, e = .returned (.tuple #[v, .bool true]) ∧ SlSh w' v ls ∧ Ex W w'
set_option maxRecDepth 100000 in
theorem told_z {Z : Nat} {W : World} {p q : Nat} {d : Dk} {wl : Wl} (h : LgZ Z W p q d wl) (h0 : 0 < wl.sh.length) (hn : wl.sh.length ≤ 1000) (hb : ∀ b ∈ wl.sh, b.length ≤ 50000) :
    Calls Tryd.prog 25 #[PT p] W (PostTo W wl.sh) := by
  obtain ⟨s, ls, hls⟩ : ∃ s ls, wl.sh = s :: ls := by
    cases e : wl.sh with
    | nil => rw [e] at h0; simp at h0
    | cons s ls => exact ⟨s, ls, rfl⟩
  have HRe := Lib.hid (fun W' (k : Ex W W') => rest_z (h.ex k) h0 (fun b hx => hb b (List.mem_of_mem_tail hx)) hn)
  have HSn := Lib.hid (fun W' (k : Ex W W') => snap_z (h.ex k) h0 (by rw [hls]; exact hb s (by rw [hls]; simp)))
  have HLe := Lib.hid (fun W' (k : Ex W W') => len_z (h.ex k))
  rw [hls] at HRe HSn HLe hn ⊢
  simp only [List.tail_cons, List.getD_cons_zero, List.length_cons] at HRe HSn HLe hn
  clear h h0 hb hls
  obtain ⟨n, hnn⟩ : ∃ n, ls.length = n := ⟨_, rfl⟩
  have e1 : ((n + 1 : Nat) : Int) - 1 = (n : Int) := by omega
  rw [hnn, e1] at HLe
  go_enter Tryd.func25, Tryd.ntmps25
  go_wp2_with (first | (go_at_call 12; (with_reducible refine (HRe.out _ (by (try show Ex _ _); with_reducible repeat (first | exact ex_refl _ | assumption | refine ex_drewL ?_ | refine ex_appR ?_ _ | refine ex_wx ?_ _ | refine ex_drew ?_ | refine ex_alloc ?_ _))).mono ?_); rintro e w2 ⟨u, rfl, hO, X2, rfl⟩; obtain ⟨ua, uc, rfl, _⟩ := hO.form; rw [hnn] at hO; replace hO := Lib.hid hO) | (go_at_call 15; (with_reducible refine (HSn.out _ (by (try show Ex _ _); with_reducible repeat (first | exact ex_refl _ | assumption | refine ex_drewL ?_ | refine ex_appR ?_ _ | refine ex_wx ?_ _ | refine ex_drew ?_ | refine ex_alloc ?_ _))).mono ?_); rintro e w3 ⟨u3, rfl, hT3, X3, rfl⟩; rw [wx_wx] at hT3; obtain ⟨ta, tc, rfl, _⟩ := hT3.out; replace hT3 := Lib.hid hT3) | (go_at_call 16; (with_reducible refine (HLe.out _ (by (try show Ex _ _); with_reducible repeat (first | exact ex_refl _ | assumption | refine ex_drewL ?_ | refine ex_appR ?_ _ | refine ex_wx ?_ _ | refine ex_drew ?_ | refine ex_alloc ?_ _))).mono ?_); rintro e w5 ⟨rfl, X5, rfl⟩) | (at_builtin; refine wpConsSh _ _ rfl rfl rfl (heap_alloc_at (by simp [go_sem])) (hT3.out.ky (Ky.ex (by (try show Ex _ _); with_reducible repeat (first | exact ex_refl _ | assumption | refine ex_drewL ?_ | refine ex_appR ?_ _ | refine ex_wx ?_ _ | refine ex_drew ?_ | refine ex_alloc ?_ _)))) rfl (hO.out.sh.ky (Ky.ex (by (try show Ex _ _); with_reducible repeat (first | exact ex_refl _ | assumption | refine ex_drewL ?_ | refine ex_appR ?_ _ | refine ex_wx ?_ _ | refine ex_drew ?_ | refine ex_alloc ?_ _)))) (by omega) ?_; intro v4 w4 hS4 hX4; obtain ⟨X4, rfl⟩ := hX4; obtain ⟨a4, c4, rfl, _⟩ := hS4.out; simp only [List.length_cons, hnn] at hS4; replace hS4 := Lib.hid hS4))
  go_ret2
  exact ⟨_, rfl, hS4.out.ky (Ky.ex (by (try show Ex _ _); with_reducible repeat (first | exact ex_refl _ | assumption | refine ex_drewL ?_ | refine ex_appR ?_ _ | refine ex_wx ?_ _ | refine ex_drew ?_ | refine ex_alloc ?_ _))), (by (try show Ex _ _); with_reducible repeat (first | exact ex_refl _ | assumption | refine ex_drewL ?_ | refine ex_appR ?_ _ | refine ex_wx ?_ _ | refine ex_drew ?_ | refine ex_alloc ?_ _))⟩
end Go.Proofs.YtabjamkkhlbajaaDoor
