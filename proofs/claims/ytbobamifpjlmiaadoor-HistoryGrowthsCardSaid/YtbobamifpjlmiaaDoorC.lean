/- A start for the cards' witnesses. -/
import Derived.Test.YtbobamifpjlmiaaDoorGlob
import Derived.Test.YtbobamifpjlmiaaDoorCards
import Derived.Test.YtbobamifpjlmiaaDoorTie
set_option linter.unusedSimpArgs false
set_option linter.unusedVariables false
set_option maxRecDepth 20000
namespace Go.Proofs.YtbobamifpjlmiaaDoor
open Go.RowKit Go.ChangeShapes Go.WideShapes Go.ChangeAt
/-- A block's cells anew. -/
def setBlk (w : World) (i : Nat) (cs : Array Value) : World := { w with heap := w.heap.modify i fun
      | .cells _ t frozen => .cells cs t frozen
      | o => o }
noncomputable def laidWorld (os : Os) : World :=
  setBlk (setBlk (setBlk (World.holding Tryd.prog os ⟨#[], #[], []⟩) 0 (rowU 8 startF)) 1 (rowI 160 ordersF)) 2 (rowI 32 foursF)
end Go.Proofs.YtbobamifpjlmiaaDoor
