/-
  Contracts: the twist's symbol; counts and traces.
-/
import Derived.Test.YtodgfechhielaaaGreatDoorC8
namespace Go.Proofs.YtodgfechhielaaaGreatDoor
set_option linter.unusedSimpArgs false
set_option linter.unusedVariables false
open Go.RowKit

noncomputable def tsOk (d p : Int) : Bool := M.tw d && (M.ins p 3 997 && M.prime p) && decide (¬ d.tmod p = 0)

end Go.Proofs.YtodgfechhielaaaGreatDoor
