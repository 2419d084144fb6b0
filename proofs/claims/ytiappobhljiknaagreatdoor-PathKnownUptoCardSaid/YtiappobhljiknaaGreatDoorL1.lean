/- The walks of the laws PathLays and PathSame. -/
import Derived.Test.YtiappobhljiknaaGreatDoorW5
namespace Go.Proofs.YtiappobhljiknaaGreatDoor
open Go.RowKit
set_option linter.unusedVariables false

theorem sameP_refl (l : List Seg) : sameP l l = true := by simp [sameP]

end Go.Proofs.YtiappobhljiknaaGreatDoor
