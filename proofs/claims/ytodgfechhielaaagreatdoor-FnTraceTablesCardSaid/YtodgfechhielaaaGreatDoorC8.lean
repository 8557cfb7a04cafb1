/-
  Contracts: untwisted curves, the twist's symbol.
-/
import Derived.Test.YtodgfechhielaaaGreatDoorC7
import Derived.Deep.RegionWith
namespace Go.Proofs.YtodgfechhielaaaGreatDoor
set_option linter.unusedSimpArgs false
set_option linter.unusedVariables false
open Go.RowKit

def utOk (a b d : Int) : Bool := M.good a b && M.tw d && decide (a.tmod (d * d) = 0) && decide (b.tmod (d * d * d) = 0)

theorem ut_good {a b d : Int} (h : M.good a b = true) (h0 : d ≠ 0) (h1 : a.tmod (d * d) = 0) (h2 : b.tmod (d * d * d) = 0) : M.good (a.tdiv (d * d)) (b.tdiv (d * d * d)) = true := by
  have hin := M.inCurve_bd (M.good_in h)
  have e1 : a.tdiv (d * d) * (d * d) = a := by have := Int.tmod_add_tdiv_mul a (d * d); omega
  have e2 : b.tdiv (d * d * d) * (d * d * d) = b := by have := Int.tmod_add_tdiv_mul b (d * d * d); omega
  have hd2 : d * d ≠ 0 := Int.mul_ne_zero h0 h0
  have t1 := tdiv_bd (a := a) (d := d * d) (m := 1000) (by omega) (by omega) hd2
  have t2 := tdiv_bd (a := b) (d := d * d * d) (m := 10000) (by omega) (by omega) (Int.mul_ne_zero hd2 h0)
  generalize a.tdiv (d * d) = x at *
  generalize b.tdiv (d * d * d) = y at *
  have hdisc := M.good_disc h
  have : M.disc a b = (d * d * d * (d * d * d)) * M.disc x y := by
    unfold M.disc
    rw [← e1, ← e2]
    simp only [Int.mul_add]
    congr 1
    · simp only [Int.mul_assoc, Int.mul_comm, Int.mul_left_comm]
    · simp only [Int.mul_assoc, Int.mul_comm, Int.mul_left_comm]
  have hne : M.disc x y ≠ 0 := by
    intro hz
    rw [hz, Int.mul_zero] at this
    exact hdisc this
  simp only [M.good, M.inCurve, Bool.and_eq_true, M.ins_iff, bne_iff_ne]
  exact ⟨⟨t1, t2⟩, hne⟩

end Go.Proofs.YtodgfechhielaaaGreatDoor
