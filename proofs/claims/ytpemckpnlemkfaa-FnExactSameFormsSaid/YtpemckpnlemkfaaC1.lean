/-
  Contracts of the small functions.
-/
import Derived.Test.YtpemckpnlemkfaaProg
import Derived.Test.YtpemckpnlemkfaaPlain1
import Derived.WalkKit
import Derived.Lib.Hide
namespace Go.Proofs.Ytpemckpnlemkfaa
set_option linter.unusedSimpArgs false
set_option linter.unusedVariables false
open Go.RowKit

theorem ret_i {a b : Int} (h : a = b) : Ending.returned (.int .i64 a) = .returned (.int .i64 b) := by rw [h]
theorem ret_b {a b : Bool} (h : a = b) : Ending.returned (.bool a) = .returned (.bool b) := by rw [h]

theorem l1In_c (n lo hi : Int) (w : World) :
    Calls Try.prog 61 #[.int .i64 n, .int .i64 lo, .int .i64 hi] w fun e w' => e = .returned (.bool (M.ins n lo hi)) ∧ w = w' := by
  unfold M.ins
  by_cases h1 : lo ≤ n <;> by_cases h2 : n ≤ hi <;>
  (go_enter Try.func61, Try.ntmps61
   go_wp2
   go_ret; exact ⟨by simp [h1, h2], rfl⟩)

theorem inside_c (n lo hi : Int) (w : World) :
    Calls Try.prog 62 #[.int .i64 n, .int .i64 lo, .int .i64 hi] w fun e w' => e = .returned (.bool (M.ins n lo hi)) ∧ w = w' := by
  unfold M.ins
  by_cases h1 : lo ≤ n <;> by_cases h2 : n ≤ hi <;>
  (go_enter Try.func62, Try.ntmps62
   go_wp2
   go_ret; exact ⟨by simp [h1, h2], rfl⟩)

end Go.Proofs.Ytpemckpnlemkfaa
