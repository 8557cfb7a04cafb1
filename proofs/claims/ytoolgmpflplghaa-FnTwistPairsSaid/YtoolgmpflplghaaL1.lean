/-
  The walks of the laws on twists.
-/
import Derived.Test.YtoolgmpflplghaaC9
namespace Go.Proofs.Ytoolgmpflplghaa
set_option linter.unusedSimpArgs false
set_option linter.unusedVariables false
open Go.RowKit

end Go.Proofs.Ytoolgmpflplghaa
