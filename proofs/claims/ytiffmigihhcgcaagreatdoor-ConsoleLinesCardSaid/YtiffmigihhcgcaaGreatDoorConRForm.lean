/- The document's forms. -/
import Derived.Test.YtiffmigihhcgcaaGreatDoorConFresh
namespace Go.Proofs.YtiffmigihhcgcaaGreatDoor.ConW
set_option maxRecDepth 100000
set_option linter.constructorNameAsVariable false
open Go.RowKit ConP
def frCells (x : ConP.Fr) : List Value := [.string (bs x.w), .int .i64 x.c, .int .i64 x.o, .string (bs x.fs)]
def rformCells : Array Value := (rforms.flatMap frCells).toArray
set_option maxHeartbeats 1600000 in
theorem rforms_any (w : World) : Calls Tryz.prog 26 #[] w fun e w' => e = .returned (.slice (some ⟨w.heap.size, 0, none⟩) 19 19) ∧ w'.heap[w.heap.size]? = some (.cells rformCells 71 (0, 0)) ∧ Below w.heap.size w w' := by
  go_enter Tryz.func26, Tryz.ntmps26
  go_wp2_with fail
  go_ret
  exact ⟨rfl, heap_alloc_new w _, below_alloc w _⟩
end Go.Proofs.YtiffmigihhcgcaaGreatDoor.ConW
