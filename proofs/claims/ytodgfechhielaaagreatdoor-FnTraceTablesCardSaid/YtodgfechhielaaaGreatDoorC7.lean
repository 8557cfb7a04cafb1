/-
  Contracts: twisted curves, symbols.
-/
import Derived.Test.YtodgfechhielaaaGreatDoorC6
namespace Go.Proofs.YtodgfechhielaaaGreatDoor
set_option linter.unusedSimpArgs false
set_option linter.unusedVariables false
open Go.RowKit

/-- the value of a function that answers with a curve or with nothing -/
def cvOk (ok : Bool) (a b : Int) : Value := .tuple #[.agg #[.int .i64 (if ok then a else 0), .int .i64 (if ok then b else 0)], .bool ok]
theorem cvOk_t (a b : Int) : cvOk true a b = .tuple #[.agg #[.int .i64 a, .int .i64 b], .bool true] := rfl
theorem cvOk_f (a b : Int) : cvOk false a b = .tuple #[.agg #[.int .i64 0, .int .i64 0], .bool false] := rfl

theorem tw_mul_bd {a b d : Int} (hg : M.inCurve a b = true) (h1 : -30 ≤ d) (h2 : d ≤ 30) :
    (-30000 ≤ a * d ∧ a * d ≤ 30000) ∧ (-900000 ≤ a * d * d ∧ a * d * d ≤ 900000) ∧ (-300000 ≤ b * d ∧ b * d ≤ 300000) ∧ (-9000000 ≤ b * d * d ∧ b * d * d ≤ 9000000) ∧ (-270000000 ≤ b * d * d * d ∧ b * d * d * d ≤ 270000000) := by
  obtain ⟨g1, g2, g3, g4⟩ := M.inCurve_bd hg
  have b1 := M.mul_bd (x := a) (y := d) (m := 1000) (n := 30) (by omega) (by omega) (by omega) (by omega)
  have b2 := M.mul_bd (x := a * d) (y := d) (m := 30000) (n := 30) (by omega) (by omega) (by omega) (by omega)
  have b3 := M.mul_bd (x := b) (y := d) (m := 10000) (n := 30) (by omega) (by omega) (by omega) (by omega)
  have b4 := M.mul_bd (x := b * d) (y := d) (m := 300000) (n := 30) (by omega) (by omega) (by omega) (by omega)
  have b5 := M.mul_bd (x := b * d * d) (y := d) (m := 9000000) (n := 30) (by omega) (by omega) (by omega) (by omega)
  refine ⟨⟨?_, ?_⟩, ⟨?_, ?_⟩, ⟨?_, ?_⟩, ⟨?_, ?_⟩, ⟨?_, ?_⟩⟩ <;> omega

/-- TwistCurve: is there one; its parts -/
def twcOk (a b d : Int) : Bool := M.good a b && M.tw d && M.good (a * d * d) (b * d * d * d)

end Go.Proofs.YtodgfechhielaaaGreatDoor
