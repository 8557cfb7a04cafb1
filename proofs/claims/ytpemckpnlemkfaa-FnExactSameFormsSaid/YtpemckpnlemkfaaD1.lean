/-
  Contracts: powers, counts over larger fields, lists of good primes.
-/
import Derived.Test.YtpemckpnlemkfaaPlain5
import Derived.Test.YtpemckpnlemkfaaC12
import Derived.Test.YtpemckpnlemkfaaS1
namespace Go.Proofs.Ytpemckpnlemkfaa
set_option linter.unusedSimpArgs false
set_option linter.unusedVariables false
open Go.RowKit

def cntOver (t p k : Int) : Int := M.ipow p k.toNat + 1 - trp t p k
theorem trp_bd {t p k : Int} (h1 : -1000 ≤ t) (h2 : t ≤ 1000) (h3 : 0 ≤ p) (h4 : p ≤ 1000) (k1 : 1 ≤ k) (k2 : k ≤ 4) : -8000000000000 ≤ trp t p k ∧ trp t p k ≤ 8000000000000 := by
  have := M.tpw_bd4 h1 h2 h3 h4 (k := (k - 1).toNat) (by omega)
  exact this.2.2

end Go.Proofs.Ytpemckpnlemkfaa
