/-
  This seat's program under a short name. No condition.
-/
import Derived.Test.YtdgffjkcpbolmaaGreatDoorFxW
import Derived.Test.YtdgffjkcpbolmaaGreatDoorProg
namespace Go.Proofs.YtdgffjkcpbolmaaGreatDoor.X
open Go
noncomputable abbrev P : Program := Go.Proofs.Tryz.prog
theorem mixed : P.follows .mixedOrders = true := by kernel_rfl
end Go.Proofs.YtdgffjkcpbolmaaGreatDoor.X
