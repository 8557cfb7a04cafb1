/-
  Contracts: the neighbours, as asked for.
-/
import Derived.Test.YtoolgmpflplghaaE8
import Derived.Test.YtoolgmpflplghaaS9
namespace Go.Proofs.Ytoolgmpflplghaa
set_option linter.unusedSimpArgs false
set_option linter.unusedVariables false
open Go.RowKit Go.Shelf

def M.nbAsked (a b : Int) : List (Int × Int) := if M.good a b then M.nbs a b else []
theorem M.nbAsked_le (a b : Int) : (M.nbAsked a b).length ≤ 201 := by
  unfold M.nbAsked M.nbs
  split
  · split
    · have h1 := cputs_le ((M.roots a b).map (M.nbl a b)) []
      have h2 := M.roots_le a b
      rw [List.length_map, List.length_nil] at h1
      unfold M.cputs
      omega
    · simp
  · simp

end Go.Proofs.Ytoolgmpflplghaa
