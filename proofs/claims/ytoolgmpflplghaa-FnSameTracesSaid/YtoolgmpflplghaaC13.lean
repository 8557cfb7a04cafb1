/-
  Contracts: points of order two, raw neighbours.
-/
import Derived.Test.YtoolgmpflplghaaPlain4
import Derived.Test.YtoolgmpflplghaaC8
namespace Go.Proofs.Ytoolgmpflplghaa
set_option linter.unusedSimpArgs false
set_option linter.unusedVariables false
open Go.RowKit

theorem rawNeighbour_c (a b e : Int) (w : World) (h : M.inCurve a b = true) (h1 : -200 ≤ e) (h2 : e ≤ 200) :
    Calls Try.prog 121 #[.agg #[.int .i64 a, .int .i64 b], .int .i64 e] w fun r w' => r = .returned (.tuple #[.int .i64 (M.rawA a e), .int .i64 (M.rawB a b e)]) ∧ Below w.heap.size w w' := by
  obtain ⟨g1, g2, g3, g4⟩ := M.inCurve_bd h
  obtain ⟨b1, b2, b3, b4, b5, b6, b7⟩ := M.raw_bd h h1 h2
  unfold M.rawA M.rawB M.rawT at *
  have w1 := IntWalk.i64_in (5 * (3 * e * e + a)) (by omega)
  have w2 := IntWalk.i64_in (a - 5 * (3 * e * e + a)) (by omega)
  have w3 := IntWalk.i64_in (7 * e) (by omega)
  have w4 := IntWalk.i64_in (7 * e * (3 * e * e + a)) (by omega)
  have w5 := IntWalk.i64_in (b - 7 * e * (3 * e * e + a)) (by omega)
  go_enter Try.func121, Try.ntmps121
  go_wp2
  go_quiet (fail)
  go_wp2
  go_ret2
  exact ⟨rfl, (by repeat (first | exact Below.refl _ _ | refine below_alloc ?_ _ | refine below_step ?_ (by assumption) | refine Below.drew ?_ | refine Below.setCell ?_ (by first | exact Nat.le_refl _ | exact Nat.le_add_right _ _ | (simp <;> omega)) _ | refine below_drewN ?_ _))⟩

theorem icRaw_c (a b e : Int) (w : World) (h : M.inCurve a b = true) (h1 : -200 ≤ e) (h2 : e ≤ 200) :
    Calls Try.prog 125 #[.agg #[.int .i64 a, .int .i64 b], .int .i64 e] w fun r w' => r = .returned (.tuple #[.int .i64 (M.rawA a e), .int .i64 (M.rawB a b e)]) ∧ Below w.heap.size w w' := by
  obtain ⟨g1, g2, g3, g4⟩ := M.inCurve_bd h
  obtain ⟨b1, b2, b3, b4, b5, b6, b7⟩ := M.raw_bd h h1 h2
  unfold M.rawA M.rawB M.rawT at *
  have w1 := IntWalk.i64_in (5 * (3 * e * e + a)) (by omega)
  have w2 := IntWalk.i64_in (a - 5 * (3 * e * e + a)) (by omega)
  have w3 := IntWalk.i64_in (7 * e) (by omega)
  have w4 := IntWalk.i64_in (7 * e * (3 * e * e + a)) (by omega)
  have w5 := IntWalk.i64_in (b - 7 * e * (3 * e * e + a)) (by omega)
  go_enter Try.func125, Try.ntmps125
  go_wp2
  go_quiet (fail)
  go_wp2
  go_ret2
  exact ⟨rfl, (by repeat (first | exact Below.refl _ _ | refine below_alloc ?_ _ | refine below_step ?_ (by assumption) | refine Below.drew ?_ | refine Below.setCell ?_ (by first | exact Nat.le_refl _ | exact Nat.le_add_right _ _ | (simp <;> omega)) _ | refine below_drewN ?_ _))⟩
end Go.Proofs.Ytoolgmpflplghaa
