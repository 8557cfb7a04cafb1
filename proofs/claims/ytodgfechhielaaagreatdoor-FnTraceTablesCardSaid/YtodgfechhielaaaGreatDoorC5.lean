/-
  Contracts: valuations, prime divisors, squarefree parts.
-/
import Derived.Test.YtodgfechhielaaaGreatDoorPlain3
import Derived.Test.YtodgfechhielaaaGreatDoorC3
import Derived.Test.YtodgfechhielaaaGreatDoorC4
import Derived.Deep.DeepCutAuto
namespace Go.Proofs.YtodgfechhielaaaGreatDoor
set_option linter.unusedSimpArgs false
set_option linter.unusedVariables false
open Go.RowKit

theorem mem_primesOf {n x : Int} (h : x ∈ M.primesOf n) : M.Prime x := by
  have := M.mem_sel.1 h
  have h2 := this.2
  unfold M.pdiv at h2
  exact M.prime_iff.1 (Bool.and_eq_true_iff.1 h2).1

end Go.Proofs.YtodgfechhielaaaGreatDoor
