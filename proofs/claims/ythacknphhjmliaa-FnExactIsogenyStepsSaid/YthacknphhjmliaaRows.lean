/-
  No cell of these rows narrows 'for every input' (looked for: loops, veiled, ifaces, maps, wideKeys, modest, calm, conditions, laid).
  DERIVED. THE GIVEN ROWS OF THIS SEAT. 4 by the template 'for every input the law returns true; each argument reads behind the call as it read before'; 0 by the template 'total and deterministic' (their statements: YthacknphhjmliaaTotals.lean).
  GIVEN WITH THE SEED: the statements are not yours to turn. If you find one false, say at which input.
  Laid BY PROGRAM, IN A SANDBOX (cutbox-rows.mjs): the forced cells as the released guide's own fill.sh prints them over the translation bea3d36c42e510a7… (all of the seat's roots in one cut). By AI agents, Wed Nov 11 2026. No macro, syntax, notation, axiom, sorry.
-/
import Derived.Test.YthacknphhjmliaaChecked
import GoSem.Claim
import GoSem.ClaimJoined
import GoSem.ClaimMapViews
import Derived.JoinedTies
import Derived.KernelRfl
namespace Go.Proofs.Ythacknphhjmliaa
/- THE CELL 'sum', in the pinned program and in every row, IS THE sha256 OF THE DUMP (.gsa) THAT YthacknphhjmliaaProg.lean LOADS. Nothing in Lean hashes anything: it is a label: what it is worth is what the hold of that sum in a sandbox is worth. -/
noncomputable def Try.pinned : Pinned := { name := "ythacknphhjmliaa", sum := "bea3d36c42e510a711b471b4fe1806bba8f71761c1376d8dfeafdc9106e7c156", checked := Try.checked }
namespace Rows
def none {H : Type} : Left H := { results := [], args := [] }

/-- 'laws.FnExactTwoNeighbours': WHATEVER THE INPUT: true; the input reads as it did. -/
def fnExactTwoNeighboursSpec : ChangeSpec := { name := "fnExactTwoNeighbours", fn := fun _ => fun
  | [d] => { results := [.lit (.bool true)], args := [d] }
  | _ => none }
def fnExactTwoNeighboursRow : OpenClaim := { program := "ythacknphhjmliaa", sum := "bea3d36c42e510a711b471b4fe1806bba8f71761c1376d8dfeafdc9106e7c156", func := "loop.example/g01004/laws.FnExactTwoNeighbours", spec := "fnExactTwoNeighbours", unfollowed := true, recurses := true, apart := false }
def FnExactTwoNeighboursSaid : Prop := fnExactTwoNeighboursRow.holds Try.pinned (OpenSpec.ofChange fnExactTwoNeighboursSpec)

/-- ITS FALSE NEIGHBOUR: 'it returns false'. Refute it at one input. -/
def fnExactTwoNeighboursWrong : ChangeSpec := { name := "fnExactTwoNeighbours", fn := fun _ => fun
  | [d] => { results := [.lit (.bool false)], args := [d] }
  | _ => none }
def FnExactTwoNeighboursWrongFalsely : Prop := fnExactTwoNeighboursRow.holds Try.pinned (OpenSpec.ofChange fnExactTwoNeighboursWrong)

/-- 'laws.FnExactAreTwoIsogenous': WHATEVER THE INPUT: true; the input reads as it did. -/
def fnExactAreTwoIsogenousSpec : ChangeSpec := { name := "fnExactAreTwoIsogenous", fn := fun _ => fun
  | [d1, d2] => { results := [.lit (.bool true)], args := [d1, d2] }
  | _ => none }
def fnExactAreTwoIsogenousRow : OpenClaim := { program := "ythacknphhjmliaa", sum := "bea3d36c42e510a711b471b4fe1806bba8f71761c1376d8dfeafdc9106e7c156", func := "loop.example/g01004/laws.FnExactAreTwoIsogenous", spec := "fnExactAreTwoIsogenous", unfollowed := true, recurses := true, apart := false }
def FnExactAreTwoIsogenousSaid : Prop := fnExactAreTwoIsogenousRow.holds Try.pinned (OpenSpec.ofChange fnExactAreTwoIsogenousSpec)

/-- ITS FALSE NEIGHBOUR: 'it returns false'. Refute it at one input. -/
def fnExactAreTwoIsogenousWrong : ChangeSpec := { name := "fnExactAreTwoIsogenous", fn := fun _ => fun
  | [d1, d2] => { results := [.lit (.bool false)], args := [d1, d2] }
  | _ => none }
def FnExactAreTwoIsogenousWrongFalsely : Prop := fnExactAreTwoIsogenousRow.holds Try.pinned (OpenSpec.ofChange fnExactAreTwoIsogenousWrong)

/-- 'laws.FnExactIsogenySteps': WHATEVER THE INPUT: true; the input reads as it did. -/
def fnExactIsogenyStepsSpec : ChangeSpec := { name := "fnExactIsogenySteps", fn := fun _ => fun
  | [d1, d2] => { results := [.lit (.bool true)], args := [d1, d2] }
  | _ => none }
def fnExactIsogenyStepsRow : OpenClaim := { program := "ythacknphhjmliaa", sum := "bea3d36c42e510a711b471b4fe1806bba8f71761c1376d8dfeafdc9106e7c156", func := "loop.example/g01004/laws.FnExactIsogenySteps", spec := "fnExactIsogenySteps", unfollowed := true, recurses := true, apart := false }
def FnExactIsogenyStepsSaid : Prop := fnExactIsogenyStepsRow.holds Try.pinned (OpenSpec.ofChange fnExactIsogenyStepsSpec)

/-- ITS FALSE NEIGHBOUR: 'it returns false'. Refute it at one input. -/
def fnExactIsogenyStepsWrong : ChangeSpec := { name := "fnExactIsogenySteps", fn := fun _ => fun
  | [d1, d2] => { results := [.lit (.bool false)], args := [d1, d2] }
  | _ => none }
def FnExactIsogenyStepsWrongFalsely : Prop := fnExactIsogenyStepsRow.holds Try.pinned (OpenSpec.ofChange fnExactIsogenyStepsWrong)

/-- 'laws.FnExactIsogenyClass': WHATEVER THE INPUT: true; the input reads as it did. -/
def fnExactIsogenyClassSpec : ChangeSpec := { name := "fnExactIsogenyClass", fn := fun _ => fun
  | [d] => { results := [.lit (.bool true)], args := [d] }
  | _ => none }
def fnExactIsogenyClassRow : OpenClaim := { program := "ythacknphhjmliaa", sum := "bea3d36c42e510a711b471b4fe1806bba8f71761c1376d8dfeafdc9106e7c156", func := "loop.example/g01004/laws.FnExactIsogenyClass", spec := "fnExactIsogenyClass", unfollowed := true, recurses := true, apart := false }
def FnExactIsogenyClassSaid : Prop := fnExactIsogenyClassRow.holds Try.pinned (OpenSpec.ofChange fnExactIsogenyClassSpec)

/-- ITS FALSE NEIGHBOUR: 'it returns false'. Refute it at one input. -/
def fnExactIsogenyClassWrong : ChangeSpec := { name := "fnExactIsogenyClass", fn := fun _ => fun
  | [d] => { results := [.lit (.bool false)], args := [d] }
  | _ => none }
def FnExactIsogenyClassWrongFalsely : Prop := fnExactIsogenyClassRow.holds Try.pinned (OpenSpec.ofChange fnExactIsogenyClassWrong)

/- THE SECOND FORM. 'bulk': how many values and letters a reading holds, each counted each time it is reached (what is shared counts as often as it is met; a slice's spare places count too). A statement '..UptoSaid' is the law's where the arguments, and the package variables that the reading takes, are together of bulk at most 1048576: NARROWER than '..Said'. Prove '..Said' where nothing that the law and all that it calls make is longer than what came in: it says more and counts as full. Else prove '..UptoSaid'. A law counts once. -/
mutual
def uptoBulk {H : Type} : DataW H → Nat
  | .lit (.string bytes) => bytes.length + 1
  | .lit _ => 1
  | .nil => 1
  | .ptr d => uptoBulk d + 1
  | .slice elems spare => uptoBulkAll elems + uptoBulkAll spare + 1
  | .agg parts => uptoBulkAll parts + 1
  | .iface _ d => uptoBulk d + 1
  | .map entries => uptoBulkEntries entries + 1
  | .held _ => 1
def uptoBulkAll {H : Type} : List (DataW H) → Nat
  | [] => 0
  | d :: r => uptoBulk d + uptoBulkAll r
def uptoBulkEntries {H : Type} : List (Lit × DataW H) → Nat
  | [] => 0
  | x :: r => uptoBulkEntry x + uptoBulkEntries r
def uptoBulkEntry {H : Type} : Lit × DataW H → Nat
  | (.string bytes, d) => bytes.length + uptoBulk d + 1
  | (_, d) => uptoBulk d + 1
 end
def uptoSmall : (H : Type) → List (DataW H) → Bool := fun _ ds => decide (uptoBulkAll ds ≤ 1048576)
def OpenSpec.upto (s : _root_.Go.ChangeSpec) : _root_.Go.OpenSpec := { _root_.Go.OpenSpec.ofChange s with cond := some uptoSmall }

/-- 'laws.FnExactTwoNeighbours', WHERE WHAT IT READS IS OF BULK AT MOST 1048576: true; the input reads as it did. -/
def fnExactTwoNeighboursUptoRow : OpenClaim := { program := "ythacknphhjmliaa", sum := "bea3d36c42e510a711b471b4fe1806bba8f71761c1376d8dfeafdc9106e7c156", func := "loop.example/g01004/laws.FnExactTwoNeighbours", spec := "fnExactTwoNeighbours", unfollowed := true, recurses := true, apart := false, narrowed := true }
def FnExactTwoNeighboursUptoSaid : Prop := fnExactTwoNeighboursUptoRow.holds Try.pinned (OpenSpec.upto fnExactTwoNeighboursSpec)

/-- 'laws.FnExactAreTwoIsogenous', WHERE WHAT IT READS IS OF BULK AT MOST 1048576: true; the input reads as it did. -/
def fnExactAreTwoIsogenousUptoRow : OpenClaim := { program := "ythacknphhjmliaa", sum := "bea3d36c42e510a711b471b4fe1806bba8f71761c1376d8dfeafdc9106e7c156", func := "loop.example/g01004/laws.FnExactAreTwoIsogenous", spec := "fnExactAreTwoIsogenous", unfollowed := true, recurses := true, apart := false, narrowed := true }
def FnExactAreTwoIsogenousUptoSaid : Prop := fnExactAreTwoIsogenousUptoRow.holds Try.pinned (OpenSpec.upto fnExactAreTwoIsogenousSpec)

/-- 'laws.FnExactIsogenySteps', WHERE WHAT IT READS IS OF BULK AT MOST 1048576: true; the input reads as it did. -/
def fnExactIsogenyStepsUptoRow : OpenClaim := { program := "ythacknphhjmliaa", sum := "bea3d36c42e510a711b471b4fe1806bba8f71761c1376d8dfeafdc9106e7c156", func := "loop.example/g01004/laws.FnExactIsogenySteps", spec := "fnExactIsogenySteps", unfollowed := true, recurses := true, apart := false, narrowed := true }
def FnExactIsogenyStepsUptoSaid : Prop := fnExactIsogenyStepsUptoRow.holds Try.pinned (OpenSpec.upto fnExactIsogenyStepsSpec)

/-- 'laws.FnExactIsogenyClass', WHERE WHAT IT READS IS OF BULK AT MOST 1048576: true; the input reads as it did. -/
def fnExactIsogenyClassUptoRow : OpenClaim := { program := "ythacknphhjmliaa", sum := "bea3d36c42e510a711b471b4fe1806bba8f71761c1376d8dfeafdc9106e7c156", func := "loop.example/g01004/laws.FnExactIsogenyClass", spec := "fnExactIsogenyClass", unfollowed := true, recurses := true, apart := false, narrowed := true }
def FnExactIsogenyClassUptoSaid : Prop := fnExactIsogenyClassUptoRow.holds Try.pinned (OpenSpec.upto fnExactIsogenyClassSpec)

end Rows
end Go.Proofs.Ythacknphhjmliaa
