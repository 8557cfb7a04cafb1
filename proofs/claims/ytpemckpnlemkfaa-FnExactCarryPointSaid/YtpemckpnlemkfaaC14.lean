/-
  Contracts: neighbours.
-/
import Derived.Test.YtpemckpnlemkfaaC13
namespace Go.Proofs.Ytpemckpnlemkfaa
set_option linter.unusedSimpArgs false
set_option linter.unusedVariables false
open Go.RowKit

def nbAsk (a b e : Int) : Bool := M.good a b && M.order2 a b e
theorem nbAsk_t {a b e : Int} (h : nbAsk a b e = true) : M.good a b = true ∧ M.order2 a b e = true ∧ -200 ≤ e ∧ e ≤ 200 ∧ M.val a b e = 0 := by
  simp only [nbAsk, Bool.and_eq_true] at h
  have h2 := h.2
  simp only [M.order2, Bool.and_eq_true, M.ins_iff, M.root3, beq_iff_eq] at h2
  exact ⟨h.1, h.2, h2.1.1, h2.1.2, h2.2⟩

end Go.Proofs.Ytpemckpnlemkfaa
