/-
  Contracts: mean traces; fractions compared by a law.
-/
import Derived.Test.YtpemckpnlemkfaaD6
import Derived.Test.YtpemckpnlemkfaaD3
import Derived.Test.YtpemckpnlemkfaaL1
import Derived.Outline
namespace Go.Proofs.Ytpemckpnlemkfaa
set_option linter.unusedSimpArgs false
set_option linter.unusedVariables false
open Go.RowKit

/-- the sum of the traces at some primes -/
noncomputable def mtStep (a b : Int) (s p : Int) : Int := s + M.trace a b p
noncomputable def mtSum (a b n : Int) : Int := (M.goods a b n).foldl (mtStep a b) 0
theorem mt_bd (a b n : Int) : ∀ k : Nat, -(1000 * (k : Int)) ≤ ((M.goods a b n).take k).foldl (mtStep a b) 0 ∧ ((M.goods a b n).take k).foldl (mtStep a b) 0 ≤ 1000 * (k : Int)
  | 0 => by simp
  | k + 1 => by
    have ih := mt_bd a b n k
    cases hx : (M.goods a b n)[k]? with
    | none =>
      have hl := List.getElem?_eq_none_iff.1 hx
      rw [List.take_of_length_le (by omega)]
      rw [List.take_of_length_le hl] at ih
      omega
    | some p =>
      rw [foldl_next _ _ hx]
      have hp := (M.mem_goods (List.mem_of_getElem? hx)).1
      have := goodp_trace hp
      unfold mtStep at ih ⊢
      omega
theorem goods_le (a b n : Int) (n2 : n ≤ 1000) : (M.goods a b n).length ≤ 1000 := by
  have := M.sel_le (M.goodp a b) 5 (n - 4).toNat
  unfold M.goods
  omega
noncomputable def mtOk (a b n : Int) : Bool := trAsk a b n && !(M.goods a b n).isEmpty
noncomputable def mtq (a b n : Int) : Bool := mtOk a b n && frq (mtSum a b n) (M.goods a b n).length
noncomputable def mtX (a b n : Int) : Int := M.pick (mtq a b n) (partN (mtSum a b n) (M.goods a b n).length)
noncomputable def mtY (a b n : Int) : Int := M.pick (mtq a b n) (partD (mtSum a b n) (M.goods a b n).length)

theorem eqFraction_c (a b c d : Int) (w : World) :
    Calls Try.prog 20 #[.agg #[.int .i64 a, .int .i64 b], .agg #[.int .i64 c, .int .i64 d]] w fun e w' => e = .returned (.bool (a == c && b == d)) ∧ Below w.heap.size w w' := by
  by_cases h1 : a = c <;> by_cases h2 : b = d
  all_goals
    go_enter Try.func20, Try.ntmps20
    go_wp2
    go_ret; exact ⟨ret_b (by simp [h1, h2]), (by repeat (first | exact Below.refl _ _ | refine below_alloc ?_ _ | refine below_step ?_ (by assumption) | refine Below.drew ?_ | refine Below.setCell ?_ (by first | exact Nat.le_refl _ | exact Nat.le_add_right _ _ | (simp <;> omega)) _ | refine below_drewN ?_ _))⟩

end Go.Proofs.Ytpemckpnlemkfaa
