/-
  Contracts: residues.
-/
import Derived.Test.YthacknphhjmliaaProg
import Derived.Test.YthacknphhjmliaaPlain1
import Derived.Test.YthacknphhjmliaaPlain2
import Derived.Test.YthacknphhjmliaaC1
import Derived.WalkKit
import Derived.Deep.QuietTactic
import Derived.BigQuiet
import Derived.Lib.Hide
namespace Go.Proofs.Ythacknphhjmliaa
set_option linter.unusedSimpArgs false
set_option linter.unusedVariables false
open Go.RowKit

/-- a contract that leaves the world alone, as a quiet region asks it -/
theorem quiet {P : Program} {f : FuncId} {args : Array Value} {w : World} {n : Nat} {v : Value}
    (h : Calls P f args (w.drewN n) fun e w' => e = .returned v ∧ w.drewN n = w') : Calls P f args (w.drewN n) fun e w'' => e = .returned v ∧ ∃ m, w'' = w.drewN m :=
  h.mono fun _ _ ⟨he, hm⟩ => ⟨he, n, hm.symm⟩

end Go.Proofs.Ythacknphhjmliaa
