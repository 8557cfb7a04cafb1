/-
  Contracts: fractions in lowest terms.
-/
import Derived.Test.YtblegpmidkocaaaDoorD5
import Derived.Test.YtblegpmidkocaaaDoorC8
namespace Go.Proofs.YtblegpmidkocaaaDoor
set_option linter.unusedSimpArgs false
set_option linter.unusedVariables false
open Go.RowKit

/-- a quotient in lowest terms, or nothing -/
noncomputable def frq (n d : Int) : Bool := frOk (partN n d) (partD n d)

end Go.Proofs.YtblegpmidkocaaaDoor
