/- What the tie of the listed variables needs: the run ends. -/
import Derived.Test.YtimabpfjjpjfjaaGreatDoorRows
import Derived.LaidByTextLater
namespace Go.Proofs.YtimabpfjjpjfjaaGreatDoor
open Go
theorem t_d : ∀ os tape, varsDone Tryz.prog 400 (varsId Tryz.prog) os tape = true := fun _ _ => by kernel_rfl
end Go.Proofs.YtimabpfjjpjfjaaGreatDoor
