/-
  Contracts: twists.
-/
import Derived.Test.YtodgfechhielaaaGreatDoorC5
namespace Go.Proofs.YtodgfechhielaaaGreatDoor
set_option linter.unusedSimpArgs false
set_option linter.unusedVariables false
open Go.RowKit

/-- both have one invariant -/
def sameInv (a b c d : Int) : Bool := (partN (6912 * a * a * a) (M.disc a b) == partN (6912 * c * c * c) (M.disc c d)) && (partD (6912 * a * a * a) (M.disc a b) == partD (6912 * c * c * c) (M.disc c d))

theorem tdiv_gcd_bd {d e m : Int} (h0 : M.gcd d e ≠ 0) (h1 : -m ≤ d) (h2 : d ≤ m) : -m ≤ d.tdiv (M.gcd d e) ∧ d.tdiv (M.gcd d e) ≤ m := tdiv_bd h1 h2 h0

def prodTw (d e : Int) : Int := d.tdiv (M.gcd d e) * (e.tdiv (M.gcd d e))
def prodOk (d e : Int) : Bool := M.tw d && M.tw e && M.tw (prodTw d e)

end Go.Proofs.YtodgfechhielaaaGreatDoor
