/-
  Contracts: fields that fit, counts of a curve and of its twist.
-/
import Derived.Test.YtodgfechhielaaaGreatDoorC9
import Derived.Test.YtodgfechhielaaaGreatDoorD1
import Derived.Test.YtodgfechhielaaaGreatDoorL1
namespace Go.Proofs.YtodgfechhielaaaGreatDoor
set_option linter.unusedSimpArgs false
set_option linter.unusedVariables false
open Go.RowKit

noncomputable def fitOk (a b p : Int) : Bool := (M.good a b && M.goodp a b p) && decide (p ≤ 199)

noncomputable def tcOk (a b d p : Int) : Bool := fitOk a b p && M.tw d && decide (¬ d.tmod p = 0) && M.good (a * d * d) (b * d * d * d)
noncomputable def tcVal (a b d p : Int) : Value := .tuple #[.int .i64 (M.pick (tcOk a b d p) (M.count a b p)), .int .i64 (M.pick (tcOk a b d p) (M.count (a * d * d) (b * d * d * d) p)), .bool (tcOk a b d p)]

end Go.Proofs.YtodgfechhielaaaGreatDoor
