/-
  Contracts: traces, the exported ones.
-/
import Derived.Test.YtpemckpnlemkfaaC10
namespace Go.Proofs.Ytpemckpnlemkfaa
set_option linter.unusedSimpArgs false
set_option linter.unusedVariables false
open Go.RowKit

noncomputable def trOk (a b p : Int) : Bool := M.good a b && M.goodp a b p

end Go.Proofs.Ytpemckpnlemkfaa
