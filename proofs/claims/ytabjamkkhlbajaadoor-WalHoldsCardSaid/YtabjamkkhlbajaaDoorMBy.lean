import Derived.Test.YtabjamkkhlbajaaDoorMSl
import Derived.Test.YtabjamkkhlbajaaDoorMMem
import Derived.Lib.LazyBuf
import Derived.Lib.Hide

/- Slices of bytes of the call's own. -/
set_option linter.unusedSimpArgs false
set_option linter.unusedVariables false
set_option maxRecDepth 20000
namespace Go.Proofs.YtabjamkkhlbajaaDoor
open Go.RowKit
@[go_sem high] theorem eql_id (f g : Nat → UInt8) (w : World) : (binOp .eql 97 (.agg (rowB 32 f)) (.agg (rowB 32 g))).run Tryd.prog w = .ok (.bool (eqF f g 32)) w := eqlB Tryd.underlying97 Tryd.underlying5 (by kernel_rfl) f g w
@[go_sem high] theorem neq_id (f g : Nat → UInt8) (w : World) : (binOp .neq 97 (.agg (rowB 32 f)) (.agg (rowB 32 g))).run Tryd.prog w = .ok (.bool (!eqF f g 32)) w := neqB Tryd.underlying97 Tryd.underlying5 (by kernel_rfl) f g w
theorem appu8 : AppT Tryd.prog 22 5 1 1 (.int .u8 0) := ⟨Tryd.underlying22, by kernel_rfl, rfl, by decide⟩
@[go_sem] theorem make_u8 (l c : Int) (w : World) : (Instr.makeSlice 22 (.int .i64 l) (.int .i64 c)).run Tryd.prog w = if 0 ≤ l ∧ l ≤ c ∧ c ≤ 281474976710656 then
      .ok (.slice (some ⟨w.heap.size, 0, none⟩) l.toNat c.toNat) (w.alloc (.cells (rowB c.toNat fun _ => 0) 5)) else makeRaw Tryd.prog 22 (.int .i64 l) (.int .i64 c) w := by
  rw [make_rule appu8, manyC_B, Nat.mul_one]
  by_cases h : 0 ≤ l ∧ l ≤ c ∧ c ≤ 281474976710656
  · rw [if_pos h, if_pos ⟨h.1, h.2.1, by omega, by omega⟩]
  · rw [if_neg h, if_neg (by omega)]
@[go_sem high] theorem eqlnil_u8 (a : Option Addr) (n c : Nat) (w : World) : (binOp .eql 22 (.slice a n c) (.slice none 0 0)).run Tryd.prog w = .ok (.bool a.isNone) w := _root_.Go.run_eql_slice_nil w _ _ a n c Tryd.underlying22
@[go_sem high] theorem neqnil_u8 (a : Option Addr) (n c : Nat) (w : World) : (binOp .neq 22 (.slice a n c) (.slice none 0 0)).run Tryd.prog w = .ok (.bool (!a.isNone)) w := _root_.Go.run_neq_slice_nil w _ _ a n c Tryd.underlying22
theorem owns_slb {w : World} {Z : Nat} {v : Value} {n : Nat} {f : Nat → UInt8} (h : w.ownsRow Z 5 1 v n (rowB n f).toList) : ∃ a c, v = .slice a n c ∧ n ≤ c ∧ c ≤ maxLen ∧ (a = none → c = 0) ∧ SlB w a n f := by
  rcases h.2 with ⟨rfl, rfl⟩ | ⟨g, cap, cur, rfl, h1, h2, h3, h4, h5, h6⟩
  · exact ⟨none, 0, rfl, by omega, by unfold maxLen; omega, fun _ => rfl, SlB.zero _ _ _⟩
  · refine ⟨_, cap, rfl, h3, h4, (fun h => by cases h), SlB.mk' (Array.getElem?_eq_some_iff.1 h2).1 fun j hj => ?_⟩
    have := h.cells (g := g) rfl j (B (f j)) (by simp [go_sem, hj])
    have hadd : (⟨g, 0, none⟩ : Addr).add j = ⟨g, 0 + j, none⟩ := by unfold Addr.add; split <;> simp_all
    rwa [hadd] at this
theorem slb_news {w w' : World} {g off n : Nat} {f : Nat → UInt8} (hg : g < w.heap.size) (hc : ∀ j, j < n → w.cell? ⟨g, off + j, none⟩ = some (B (f j))) (k : Ex w w') : ∀ (j : Nat) (u : Value), (rowB n f).toList[j]? = some u → w'.cell? ((⟨g, off, none⟩ : Addr).add j) = some u := by
  intro j u hu
  have hadd : (⟨g, off, none⟩ : Addr).add j = ⟨g, off + j, none⟩ := by unfold Addr.add; split <;> simp_all
  obtain ⟨X, rfl⟩ := k
  simp only [Array.getElem?_toList, rowB_get] at hu
  split at hu
  · rename_i hj
    cases hu
    rw [hadd, wx_cell _ _ _ hg, hc j hj]
  · cases hu
end Go.Proofs.YtabjamkkhlbajaaDoor
