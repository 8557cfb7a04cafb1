/-
  Contracts: the first prime with different traces, in the reference; what is exported of it.
-/
import Derived.Test.YtpemckpnlemkfaaD2
namespace Go.Proofs.Ytpemckpnlemkfaa
set_option linter.unusedSimpArgs false
set_option linter.unusedVariables false
open Go.RowKit

/-- a table is asked for -/
def trAsk (a b n : Int) : Bool := M.good a b && M.ins n 5 200
theorem trAsk_t {a b n : Int} (h : trAsk a b n = true) : M.good a b = true ∧ 5 ≤ n ∧ n ≤ 200 := by
  simp only [trAsk, Bool.and_eq_true, M.ins_iff] at h
  exact ⟨h.1, h.2.1, h.2.2⟩

noncomputable def hsOk (a b c d n : Int) : Bool := trAsk a b n && M.good c d
theorem fdV_zero {a b c d n : Int} : (fdV a b c d n == 0) = !fdB a b c d n := by
  unfold fdV fdB M.firstD
  cases h : (M.goods a b n).find? (M.differ a b c d) with
  | none => rfl
  | some x =>
    have := (M.mem_goods (List.mem_of_find?_eq_some h)).2.1
    simp
    omega

noncomputable def fdOk (a b c d n : Int) : Bool := hsOk a b c d n && fdB a b c d n

end Go.Proofs.Ytpemckpnlemkfaa
