/-
  Slices of curves, marked and held by a law.
-/
import Derived.Test.YtoolgmpflplghaaE6
import Derived.Test.YtoolgmpflplghaaE5
import Derived.Test.YtoolgmpflplghaaS2
import Derived.Test.YtoolgmpflplghaaL1
namespace Go.Proofs.Ytoolgmpflplghaa
set_option linter.unusedSimpArgs false
set_option linter.unusedVariables false
open Go.RowKit Go.Shelf

/-- the numbers from k on, two a curve -/
def M.cmark (k : Int) (i : Nat) : Int × Int := (k + 2 * i, k + 2 * i + 1)
def M.cmarks (k : Int) (n : Nat) : List (Int × Int) := (List.range n).map (M.cmark k)
theorem M.cmarks_len (k : Int) (n : Nat) : (M.cmarks k n).length = n := by simp [M.cmarks]
theorem M.cmarks_get {k : Int} {n j : Nat} (h : j < n) : (M.cmarks k n)[j]? = some (M.cmark k j) := by simp [M.cmarks, h]
theorem M.cmarks_step {k : Int} {j : Nat} {xs : List (Int × Int)} (h : j < xs.length) : (M.cmarks k j ++ xs.drop j).set j (M.cmark k j) = M.cmarks k (j + 1) ++ xs.drop (j + 1) := by
  have hl := M.cmarks_len k j
  rw [List.set_append_right _ _ (by omega)]
  rw [hl, Nat.sub_self, List.drop_eq_getElem_cons h, List.set_cons_zero]
  unfold M.cmarks
  rw [List.range_succ, List.map_append]
  simp

end Go.Proofs.Ytoolgmpflplghaa
