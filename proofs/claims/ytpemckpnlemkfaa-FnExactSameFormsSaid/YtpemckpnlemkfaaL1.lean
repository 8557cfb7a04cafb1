/-
  The walks of the laws on twists.
-/
import Derived.Test.YtpemckpnlemkfaaC9
namespace Go.Proofs.Ytpemckpnlemkfaa
set_option linter.unusedSimpArgs false
set_option linter.unusedVariables false
open Go.RowKit

theorem toCurve_c (a b : Int) (w : World) :
    Calls Try.prog 17 #[.agg #[.int .i64 a, .int .i64 b]] w fun e w' => e = .returned (.agg #[.int .i64 a, .int .i64 b]) ∧ Below w.heap.size w w' := by
  go_enter Try.func17, Try.ntmps17
  go_wp2
  exact bodyPost_ret (v := .agg #[.int .i64 a, .int .i64 b]) (by simp [results, Try.results17, go_sem, *]) rfl (⟨rfl, (by repeat (first | exact Below.refl _ _ | refine below_alloc ?_ _ | refine below_step ?_ (by assumption) | refine Below.drew ?_ | refine Below.setCell ?_ (by first | exact Nat.le_refl _ | exact Nat.le_add_right _ _ | (simp <;> omega)) _ | refine below_drewN ?_ _))⟩)

theorem eqCurve_c (a b c d : Int) (w : World) :
    Calls Try.prog 25 #[.agg #[.int .i64 a, .int .i64 b], .agg #[.int .i64 c, .int .i64 d]] w fun e w' => e = .returned (.bool (a == c && b == d)) ∧ Below w.heap.size w w' := by
  by_cases h1 : a = c <;> by_cases h2 : b = d
  all_goals
    go_enter Try.func25, Try.ntmps25
    go_wp2
    go_ret; exact ⟨ret_b (by simp [h1, h2]), (by repeat (first | exact Below.refl _ _ | refine below_alloc ?_ _ | refine below_step ?_ (by assumption) | refine Below.drew ?_ | refine Below.setCell ?_ (by first | exact Nat.le_refl _ | exact Nat.le_add_right _ _ | (simp <;> omega)) _ | refine below_drewN ?_ _))⟩

end Go.Proofs.Ytpemckpnlemkfaa
