/-
  Contracts: counts and traces.
-/
import Derived.Test.YtpemckpnlemkfaaC9
namespace Go.Proofs.Ytpemckpnlemkfaa
set_option linter.unusedSimpArgs false
set_option linter.unusedVariables false
open Go.RowKit

end Go.Proofs.Ytpemckpnlemkfaa
