/- wakes: the layer does something. -/
import Derived.Test.YtbebehcalephfaaDoorSum
import Derived.Test.YtbebehcalephfaaDoorParse
import Derived.Test.YtbebehcalephfaaDoorClone
import Derived.Test.YtbebehcalephfaaDoorSeq
import Derived.Lib.SlBytesConst
set_option linter.unusedSimpArgs false
set_option linter.unusedVariables false
set_option maxRecDepth 20000
namespace Go.Proofs.YtbebehcalephfaaDoor
open Go.RowKit
@[go_sem] theorem zero_orders (w : World) : (zeroValue 36).run Tryd.prog w = .ok (.agg (rowI 160 fun _ => 0)) w := by kernel_rfl
/-- The package's variables. -/
structure Glob (w : World) : Prop where
  g0 : cellsN w 0 0 8 = some (rowU 8 startF)
  g1 : cellsN w 1 0 160 = some (rowI 160 ordersF)
  g2 : cellsN w 2 0 32 = some (rowI 32 foursF)
  z0 : 0 < w.heap.size
  z1 : 1 < w.heap.size
  z2 : 2 < w.heap.size
theorem Glob.wx {w : World} (h : Glob w) (X : More) : Glob (wx w X) := by
  obtain ⟨g0, g1, g2, z0, z1, z2⟩ := h
  exact ⟨by simp [go_sem, g0, z0], by simp [go_sem, g1, z1], by simp [go_sem, g2, z2], by simp [go_sem]; omega, by simp [go_sem]; omega, by simp [go_sem]; omega⟩
theorem Glob.ex {w w' : World} (h : Glob w) (k : Ex w w') : Glob w' := by
  obtain ⟨X, rfl⟩ := k; exact h.wx X
theorem sum_glob {w w' : World} (G : Glob w) (k : Ex w w') (a : Option Addr) (n cap : Nat) (f : Nat → UInt8) (hn : n ≤ cap) (hcap : cap ≤ maxLen) (hn48 : n ≤ 281474976710656) (hs : SlB w' a n f) :
    Calls Tryd.prog 21 #[.slice a n cap] w' (Post w' (.agg (rowB 32 (sumF f n)))) := by
  have G' := G.ex k
  exact sum_any a n cap f w' hn hcap hn48 hs G'.g0 G'.g1 G'.g2 G'.z0 G'.z1 G'.z2
theorem block_glob {w w' : World} (G : Glob w) (k : Ex w w') (H : Nat → UInt32) (b : Nat → UInt8) (t : UInt64) (last : Bool) :
    Calls Tryd.prog 11 #[.agg (rowU 8 H), .agg (rowB 64 b), L t, .bool last] w' (Post w' (.agg (rowU 8 (blockF H b t last)))) := by
  have G' := G.ex k
  exact block_any H b t last w' G'.g0 G'.g1 G'.g2 G'.z0 G'.z1 G'.z2
theorem start_glob {w w' : World} (G : Glob w) (k : Ex w w') : Calls Tryd.prog 18 #[] w' (Post w' (.agg (rowU 8 startF))) := start_any w' (G.ex k).g0 (G.ex k).z0
set_option maxHeartbeats 400000 in
theorem orders_any (w : World) (hg : cellsN w 1 0 160 = some (rowI 160 ordersF)) (hz : 1 < w.heap.size) :
    Calls Tryd.prog 15 #[] w (Post w (.agg (rowI 160 ordersF))) := by
  go_enter Tryd.func15, Tryd.ntmps15
  go_wp2
  exact ret_row Tryd.results15 Tryd.underlying36 rfl info_a1016 rfl (by simp [go_sem]) rfl (post_mk rfl (by repeat (first | exact ex_refl _ | refine ex_appR ?_ _ | refine ex_wx ?_ _ | refine ex_drew ?_ | refine ex_alloc ?_ _)))
theorem orders_glob {w w' : World} (G : Glob w) (k : Ex w w') : Calls Tryd.prog 15 #[] w' (Post w' (.agg (rowI 160 ordersF))) := orders_any w' (G.ex k).g1 (G.ex k).z1

def convRaw (P : Program) (x y : TypeId) (v : Value) (w : World) : Result Value := (convert x y v).run P w
@[go_sem] theorem conv_const (C : Array Value) (g n c : Nat) (w : World) : (convert 43 43 (.slice (some ⟨g, 0, none⟩) n c)).run Tryd.prog (w.alloc (.cells C 5)).drew =
    if g = w.heap.size then .ok (.slice (some ⟨g, 0, none⟩) n c) (w.alloc (.cells C 5 (C.size, C.size + 1))).drew else convRaw Tryd.prog 43 43 (.slice (some ⟨g, 0, none⟩) n c) (w.alloc (.cells C 5)).drew := by
  split
  · rename_i h; subst h
    exact Lib.run_convert_bytes_const w.drew _ _ C n c Tryd.underlying43 Tryd.underlying5
  · rfl
def abcF : Nat → UInt8 := fun i => ([97, 98, 99] : List UInt8).getD i 0
def idS : ByteArray := ⟨#[53, 48, 56, 99, 53, 101, 56, 99, 51, 50, 55, 99, 49, 52, 101, 50, 101, 49, 97, 55, 50, 98, 97, 51, 52, 101, 101, 98, 52, 53, 50, 102, 51, 55, 52, 53, 56, 98, 50, 48, 57, 101, 100, 54, 51, 97, 50, 57, 52, 100, 57, 57, 57, 98, 52, 99, 56, 54, 54, 55, 53, 57, 56, 50]⟩
theorem okS_id : okS idS := ⟨by decide, by decide +kernel⟩
theorem sum_id : eqF (sumF abcF 3) (parF idS) 32 = true := by decide +kernel
theorem less_id : ltN (fun _ => 0) (parF idS) 32 = true := by decide +kernel
theorem parse_id (w : World) : Calls Tryd.prog 29 #[.string ⟨#[53, 48, 56, 99, 53, 101, 56, 99, 51, 50, 55, 99, 49, 52, 101, 50, 101, 49, 97, 55, 50, 98, 97, 51, 52, 101, 101, 98, 52, 53, 50, 102, 51, 55, 52, 53, 56, 98, 50, 48, 57, 101, 100, 54, 51, 97, 50, 57, 52, 100, 57, 57, 57, 98, 52, 99, 56, 54, 54, 55, 53, 57, 56, 50]⟩] w (Post w (.tuple #[.agg (rowB 32 (parF idS)), I 0])) := by
  have h := parse_any idS (by decide) w
  rwa [show parseV idS = _ from if_pos okS_id] at h
@[go_sem] theorem lit_parId : Value.agg #[.int .u8 (bn ((parF idS) 0)), .int .u8 (bn ((parF idS) 1)), .int .u8 (bn ((parF idS) 2)), .int .u8 (bn ((parF idS) 3)), .int .u8 (bn ((parF idS) 4)), .int .u8 (bn ((parF idS) 5)), .int .u8 (bn ((parF idS) 6)), .int .u8 (bn ((parF idS) 7)), .int .u8 (bn ((parF idS) 8)), .int .u8 (bn ((parF idS) 9)), .int .u8 (bn ((parF idS) 10)), .int .u8 (bn ((parF idS) 11)), .int .u8 (bn ((parF idS) 12)), .int .u8 (bn ((parF idS) 13)), .int .u8 (bn ((parF idS) 14)), .int .u8 (bn ((parF idS) 15)), .int .u8 (bn ((parF idS) 16)), .int .u8 (bn ((parF idS) 17)), .int .u8 (bn ((parF idS) 18)), .int .u8 (bn ((parF idS) 19)), .int .u8 (bn ((parF idS) 20)), .int .u8 (bn ((parF idS) 21)), .int .u8 (bn ((parF idS) 22)), .int .u8 (bn ((parF idS) 23)), .int .u8 (bn ((parF idS) 24)), .int .u8 (bn ((parF idS) 25)), .int .u8 (bn ((parF idS) 26)), .int .u8 (bn ((parF idS) 27)), .int .u8 (bn ((parF idS) 28)), .int .u8 (bn ((parF idS) 29)), .int .u8 (bn ((parF idS) 30)), .int .u8 (bn ((parF idS) 31))] = .agg (rowB 32 (parF idS)) := rfl
@[go_sem] theorem zagg_B32 : Value.agg #[.int .u8 0, .int .u8 0, .int .u8 0, .int .u8 0, .int .u8 0, .int .u8 0, .int .u8 0, .int .u8 0, .int .u8 0, .int .u8 0, .int .u8 0, .int .u8 0, .int .u8 0, .int .u8 0, .int .u8 0, .int .u8 0, .int .u8 0, .int .u8 0, .int .u8 0, .int .u8 0, .int .u8 0, .int .u8 0, .int .u8 0, .int .u8 0, .int .u8 0, .int .u8 0, .int .u8 0, .int .u8 0, .int .u8 0, .int .u8 0, .int .u8 0, .int .u8 0] = .agg (rowB 32 (fun _ => 0)) := rfl
theorem cellsN_ex {w w' : World} {b o n : Nat} {cs : Array Value} (h : cellsN w b o n = some cs) (hb : b < w.heap.size) (k : Ex w w') : cellsN w' b o n = some cs := by
  obtain ⟨X, rfl⟩ := k
  rw [cellsN_congr fun j _ => wx_cell w X _ hb, h]
@[go_sem] theorem row_back (n : Nat) (f : Nat → UInt8) : (rowB n f).toList.toArray = rowB n f := by simp
theorem less_z (w : World) : Calls Tryd.prog 27 #[.agg (rowB 32 fun _ => 0), .agg (rowB 32 (parF idS))] w (Post w (.bool true)) := by
  have h := less_any (fun _ => 0) (parF idS) w
  rwa [less_id] at h
theorem slb_abc {w w' : World} {g : Nat} {fr : Nat × Nat} (hg : g = w.heap.size) (k : Ex (w.alloc (.cells #[.int .u8 97, .int .u8 98, .int .u8 99] 5 fr)) w') : SlB w' (some ⟨g, 0, none⟩) 3 abcF := by
  subst hg
  obtain ⟨X, rfl⟩ := k
  refine SlB.wx (SlB.mk' (by simp [go_sem]) fun j hj => ?_) X
  have hb := heap_alloc_new w (.cells #[.int .u8 97, .int .u8 98, .int .u8 99] 5 fr)
  have hc := cell_of_row _ w.heap.size j _ _ _ hb
  rw [Nat.zero_add, hc]
  have : j = 0 ∨ j = 1 ∨ j = 2 := by omega
  rcases this with rfl | rfl | rfl <;> rfl
set_option maxHeartbeats 8000000 in
theorem wakes_any (w : World) (G : Glob w) : Calls Tryd.prog 10 #[] w (Post w (.bool true)) := by
  have h1 := sum_id
  have h2 : (shiftF ordersF 144 0 == 10) = true := by decide
  go_enter Tryd.func10, Tryd.ntmps10
  go_wp2_with (go_at_call 29; refine (parse_id _).mono ?_; rintro e w' ⟨rfl, X, rfl⟩)
  refine wp_region_seq [(0, true), (1, true), (2, true), (6, true), (3, false), (4, false), (5, false), (7, true), (8, true), (9, true), (10, true), (11, true), (12, false), (13, true), (14, true), (15, false), (16, true), (17, true), (18, true), (19, true), (20, true)] (by kernel_rfl) (by kernel_rfl) (fun _ _ d _ _ h => by cases d <;> exact h) ?_
  simp only [List.map_cons, List.map_nil, nth]
  repeat (first | (refine wpSeq_look ?_; go_big_quiet_step (fail); refine wpQuiet_nil ?_) | (refine wpSeq_effF (by rfl) ?_; go_simp) | (refine wpSeq_eff (by rfl) ?_; go_wp2_with (first | (go_at_call 21; refine (sum_glob G (by repeat (first | exact ex_refl _ | refine ex_appR ?_ _ | refine ex_wx ?_ _ | refine ex_drew ?_ | refine ex_alloc ?_ _)) _ 3 3 abcF (by omega) (by decide) (by omega) (slb_abc (w := (wx w X).alloc (.cells (rowB 32 (parF idS)) 46)) (fr := (3, 4)) (by simp [go_sem]) (by repeat (first | exact ex_refl _ | refine ex_appR ?_ _ | refine ex_wx ?_ _ | refine ex_drew ?_ | refine ex_alloc ?_ _)))).mono ?_; rintro e w' ⟨rfl, X5, rfl⟩) | (go_at_call 27; (with_reducible refine (less_z _).mono ?_); rintro e w' ⟨rfl, X, rfl⟩) | (go_at_call 15; refine (orders_glob G (by repeat (first | exact ex_refl _ | refine ex_appR ?_ _ | refine ex_wx ?_ _ | refine ex_drew ?_ | refine ex_alloc ?_ _))).mono ?_; rintro e w' ⟨rfl, X, rfl⟩)); refine mixQ_mk (by repeat (first | exact ex_refl _ | refine ex_appR ?_ _ | refine ex_wx ?_ _ | refine ex_drew ?_ | refine ex_alloc ?_ _)) ?_))
  refine wpSeq_nil ?_
  all_goals
    go_wp2
    go_ret
    exact post_mk rfl (by repeat (first | exact ex_refl _ | refine ex_appR ?_ _ | refine ex_wx ?_ _ | refine ex_drew ?_ | refine ex_alloc ?_ _))
end Go.Proofs.YtbebehcalephfaaDoor
