import Derived.Test.YtdohohafdplkiaaMDkR
import Derived.Laws.Tables

/- Writes that wait, built; a slice of one. -/
set_option linter.unusedSimpArgs false
set_option linter.unusedVariables false
set_option maxRecDepth 20000
namespace Go.Proofs.Ytdohohafdplkiaa
open Go.RowKit
def build2Run (P : Program) (t : TypeId) (v u : Value) (w : World) : Result Next := ((Instr.build t #[(0, v), (1, u)]).run P w).andThen fun x w' => .ok (.value x) w'
@[go_sem ↓ high] theorem run_build2_pre {P : Program} (ρ : Operand → Value) (d : Option Tmp) (t : TypeId) (x y : Operand) (ty : TypeId) (pos : String) (aft : Array Edge) (g : Option (Nat × Bool)) (w : World) :
    Sem.run P (execOp ρ ⟨d, .build t #[(0, x), (1, y)], ty, pos, aft, g⟩) w = build2Run P t (ρ x) (ρ y) w := by
  simp only [execOp, Sem.run_bind, Sem.run_pure, build2Run, List.map_toArray, List.map_cons, List.map_nil]
@[go_sem low] theorem build2Run_other {P : Program} (t : TypeId) (v u : Value) (w : World) : build2Run P t v u w = ((Instr.build t #[(0, v), (1, u)]).run P w).andThen fun x w' => .ok (.value x) w' := rfl
theorem built_put (i : Int) (b : Bk) : Try.prog.built 87 [(0, I i), (1, .agg (rowB 64 (bkF b)))] = some (KQ (i, b)).toArray := by kernel_rfl
@[go_sem] theorem build2_put (i : Int) (b : Bk) (w : World) : build2Run Try.prog 87 (I i) (.agg (rowB 64 (bkF b))) w = .ok (.value (.agg (KQ (i, b)).toArray)) w := by
  unfold build2Run
  rw [run_build w _ _ _ (built_put i b)]; rfl
theorem built_rput (i : Int) (b : Bk) : Try.prog.built 72 [(0, I i), (1, .agg (rowB 64 (bkF b)))] = some (KQ (i, b)).toArray := by kernel_rfl
@[go_sem] theorem build2_rput (i : Int) (b : Bk) (w : World) : build2Run Try.prog 72 (I i) (.agg (rowB 64 (bkF b))) w = .ok (.value (.agg (KQ (i, b)).toArray)) w := by
  unfold build2Run
  rw [run_build w _ _ _ (built_rput i b)]; rfl
def buildRun (P : Program) (t : TypeId) (v : Value) (w : World) : Result Next := ((Instr.buildSlice t 1 #[(0, v)]).run P w).andThen fun x w' => .ok (.value x) w'
@[go_sem ↓ high] theorem run_build_pre {P : Program} (ρ : Operand → Value) (d : Option Tmp) (t : TypeId) (x : Operand) (ty : TypeId) (pos : String) (aft : Array Edge) (g : Option (Nat × Bool)) (w : World) :
    Sem.run P (execOp ρ ⟨d, .buildSlice t 1 #[(0, x)], ty, pos, aft, g⟩) w = buildRun P t (ρ x) w := by
  simp only [execOp, Sem.run_bind, Sem.run_pure, buildRun, List.map_toArray, List.map_cons, List.map_nil]
@[go_sem ↓ high] theorem run_buildR_pre {P : Program} (ro : Option Nat) (ρ : Operand → Value) (d : Option Tmp) (t : TypeId) (x : Operand) (ty : TypeId) (pos : String) (aft : Array Edge) (g : Option (Nat × Bool)) (w : World) :
    Sem.run P (Oper.semAt ro ρ ⟨d, .buildSlice t 1 #[(0, x)], ty, pos, aft, g⟩) w = buildRun P t (ρ x) w := by
  cases ro <;> exact run_build_pre ρ d t x ty pos aft g w
@[go_sem low] theorem buildRun_other {P : Program} (t : TypeId) (v : Value) (w : World) : buildRun P t v w = ((Instr.buildSlice t 1 #[(0, v)]).run P w).andThen fun x w' => .ok (.value x) w' := rfl
theorem buildRun_any {P : Program} {t e : TypeId} {s b : Nat} {z : Value} (T : AppT P t e s b z) (hs : s ≤ 1000000) (cs : Array Value) (hc : Instr.fill (fun i => some (i * s, s)) ((Array.range (1 * s)).map (z.cells[· % z.cells.size]!)) [(0, .agg cs)] = some cs) (w : World) :
    buildRun P t (.agg cs) w = .ok (.value (.slice (some ⟨w.heap.size, 0, none⟩) 1 1)) (w.alloc (.cells cs e)) := by
  obtain ⟨i, hi, h1, h2, h3⟩ := info_parts T.hi
  have hpos := T.hsz
  unfold buildRun
  subst h2
  simp only [Instr.buildSlice, run_underlying T.ht, Go.sizeOf, typeInfo, zeroValue, hi, h1, Sem.run_bind, Sem.run_pure, Result.andThen_ok, newRow]
  simp [hi, h1, show ¬ (2 ^ 24 < i.size) by omega, show i.size ≠ 0 by omega, Sem.run_bind, Result.andThen_ok, zeroValue, typeInfo]
  simp only [Nat.one_mul] at hc
  rw [hc]
  simp [newRow, go_sem]
theorem appPut : AppT Try.prog 68 87 65 72 (.agg zPut) := ⟨Try.underlying68, by kernel_rfl, zPut_size, by decide⟩
@[go_sem] theorem buildRun_put (p : Pt) (w : World) : buildRun Try.prog 68 (.agg (KQ p).toArray) w = .ok (.value (.slice (some ⟨w.heap.size, 0, none⟩) 1 1)) (w.alloc (.cells (KQ p).toArray 87)) :=
  buildRun_any appPut (by decide) _ (by kernel_rfl) w
end Go.Proofs.Ytdohohafdplkiaa
