/-
  The walks of the laws on twists.
-/
import Derived.Test.YtodgfechhielaaaGreatDoorC9
namespace Go.Proofs.YtodgfechhielaaaGreatDoor
set_option linter.unusedSimpArgs false
set_option linter.unusedVariables false
open Go.RowKit

end Go.Proofs.YtodgfechhielaaaGreatDoor
