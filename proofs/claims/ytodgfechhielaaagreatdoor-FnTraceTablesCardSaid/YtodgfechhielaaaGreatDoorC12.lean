/-
  Contracts: traces over larger fields.
-/
import Derived.Test.YtodgfechhielaaaGreatDoorC11
namespace Go.Proofs.YtodgfechhielaaaGreatDoor
set_option linter.unusedSimpArgs false
set_option linter.unusedVariables false
open Go.RowKit

theorem goodp_trace {a b p : Int} (hp : M.goodp a b p = true) : -1000 ≤ M.trace a b p ∧ M.trace a b p ≤ 1000 ∧ 0 ≤ p ∧ p ≤ 1000 := by
  obtain ⟨p1, p2, -⟩ := M.goodp_bd hp
  have := M.trace_bd a b (p := p) (by omega)
  omega

/-- the trace over the field with p^k elements, k from 1 on -/
def trp (t p k : Int) : Int := (M.tpw t p (k - 1).toNat).2

noncomputable def tfOk (a b p k : Int) : Bool := M.good a b && M.goodp a b p && M.ins k 1 4

end Go.Proofs.YtodgfechhielaaaGreatDoor
