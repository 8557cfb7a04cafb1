/-
  No cell of these rows narrows 'for every input' (looked for: loops, veiled, ifaces, maps, wideKeys, modest, calm, conditions, laid).
  DERIVED. THE GIVEN ROWS OF THIS SEAT. 12 by the template 'for every input the law returns true; each argument reads behind the call as it read before'; 0 by the template 'total and deterministic' (their statements: YtcaabbaddghilaaTotals.lean).
  GIVEN WITH THE SEED: the statements are not yours to turn. If you find one false, say at which input.
  Laid BY PROGRAM, IN A SANDBOX (cutbox-rows.mjs): the forced cells as the released guide's own fill.sh prints them over the translation eae4a37c38ec3a02… (all of the seat's roots in one cut). By AI agents, Wed Nov 11 2026. No macro, syntax, notation, axiom, sorry.
-/
import Derived.Test.YtcaabbaddghilaaChecked
import GoSem.Claim
import GoSem.ClaimJoined
import GoSem.ClaimMapViews
import Derived.JoinedTies
import Derived.KernelRfl
namespace Go.Proofs.Ytcaabbaddghilaa
/- THE CELL 'sum', in the pinned program and in every row, IS THE sha256 OF THE DUMP (.gsa) THAT YtcaabbaddghilaaProg.lean LOADS. Nothing in Lean hashes anything: it is a label: what it is worth is what the hold of that sum in a sandbox is worth. -/
noncomputable def Try.pinned : Pinned := { name := "ytcaabbaddghilaa", sum := "eae4a37c38ec3a02eda85ed8a60d2668d2786d707aacc105bfd31b04082fdc51", checked := Try.checked }
namespace Rows
def none {H : Type} : Left H := { results := [], args := [] }

/-- 'laws.FnExactTraceBound': WHATEVER THE INPUT: true; the input reads as it did. -/
def fnExactTraceBoundSpec : ChangeSpec := { name := "fnExactTraceBound", fn := fun _ => fun
  | [d] => { results := [.lit (.bool true)], args := [d] }
  | _ => none }
def fnExactTraceBoundRow : OpenClaim := { program := "ytcaabbaddghilaa", sum := "eae4a37c38ec3a02eda85ed8a60d2668d2786d707aacc105bfd31b04082fdc51", func := "loop.example/g01004/laws.FnExactTraceBound", spec := "fnExactTraceBound", apart := false }
def FnExactTraceBoundSaid : Prop := fnExactTraceBoundRow.holds Try.pinned (OpenSpec.ofChange fnExactTraceBoundSpec)

/-- ITS FALSE NEIGHBOUR: 'it returns false'. Refute it at one input. -/
def fnExactTraceBoundWrong : ChangeSpec := { name := "fnExactTraceBound", fn := fun _ => fun
  | [d] => { results := [.lit (.bool false)], args := [d] }
  | _ => none }
def FnExactTraceBoundWrongFalsely : Prop := fnExactTraceBoundRow.holds Try.pinned (OpenSpec.ofChange fnExactTraceBoundWrong)

/-- 'laws.FnExactIsTwistNumber': WHATEVER THE INPUT: true; the input reads as it did. -/
def fnExactIsTwistNumberSpec : ChangeSpec := { name := "fnExactIsTwistNumber", fn := fun _ => fun
  | [d] => { results := [.lit (.bool true)], args := [d] }
  | _ => none }
def fnExactIsTwistNumberRow : OpenClaim := { program := "ytcaabbaddghilaa", sum := "eae4a37c38ec3a02eda85ed8a60d2668d2786d707aacc105bfd31b04082fdc51", func := "loop.example/g01004/laws.FnExactIsTwistNumber", spec := "fnExactIsTwistNumber", apart := false }
def FnExactIsTwistNumberSaid : Prop := fnExactIsTwistNumberRow.holds Try.pinned (OpenSpec.ofChange fnExactIsTwistNumberSpec)

/-- ITS FALSE NEIGHBOUR: 'it returns false'. Refute it at one input. -/
def fnExactIsTwistNumberWrong : ChangeSpec := { name := "fnExactIsTwistNumber", fn := fun _ => fun
  | [d] => { results := [.lit (.bool false)], args := [d] }
  | _ => none }
def FnExactIsTwistNumberWrongFalsely : Prop := fnExactIsTwistNumberRow.holds Try.pinned (OpenSpec.ofChange fnExactIsTwistNumberWrong)

/-- 'laws.FnExactRawNeighbour': WHATEVER THE INPUT: true; the input reads as it did. -/
def fnExactRawNeighbourSpec : ChangeSpec := { name := "fnExactRawNeighbour", fn := fun _ => fun
  | [d1, d2] => { results := [.lit (.bool true)], args := [d1, d2] }
  | _ => none }
def fnExactRawNeighbourRow : OpenClaim := { program := "ytcaabbaddghilaa", sum := "eae4a37c38ec3a02eda85ed8a60d2668d2786d707aacc105bfd31b04082fdc51", func := "loop.example/g01004/laws.FnExactRawNeighbour", spec := "fnExactRawNeighbour", apart := false }
def FnExactRawNeighbourSaid : Prop := fnExactRawNeighbourRow.holds Try.pinned (OpenSpec.ofChange fnExactRawNeighbourSpec)

/-- ITS FALSE NEIGHBOUR: 'it returns false'. Refute it at one input. -/
def fnExactRawNeighbourWrong : ChangeSpec := { name := "fnExactRawNeighbour", fn := fun _ => fun
  | [d1, d2] => { results := [.lit (.bool false)], args := [d1, d2] }
  | _ => none }
def FnExactRawNeighbourWrongFalsely : Prop := fnExactRawNeighbourRow.holds Try.pinned (OpenSpec.ofChange fnExactRawNeighbourWrong)

/-- 'laws.FnExactHaveSameInvariant': WHATEVER THE INPUT: true; the input reads as it did. -/
def fnExactHaveSameInvariantSpec : ChangeSpec := { name := "fnExactHaveSameInvariant", fn := fun _ => fun
  | [d1, d2] => { results := [.lit (.bool true)], args := [d1, d2] }
  | _ => none }
def fnExactHaveSameInvariantRow : OpenClaim := { program := "ytcaabbaddghilaa", sum := "eae4a37c38ec3a02eda85ed8a60d2668d2786d707aacc105bfd31b04082fdc51", func := "loop.example/g01004/laws.FnExactHaveSameInvariant", spec := "fnExactHaveSameInvariant", apart := false }
def FnExactHaveSameInvariantSaid : Prop := fnExactHaveSameInvariantRow.holds Try.pinned (OpenSpec.ofChange fnExactHaveSameInvariantSpec)

/-- ITS FALSE NEIGHBOUR: 'it returns false'. Refute it at one input. -/
def fnExactHaveSameInvariantWrong : ChangeSpec := { name := "fnExactHaveSameInvariant", fn := fun _ => fun
  | [d1, d2] => { results := [.lit (.bool false)], args := [d1, d2] }
  | _ => none }
def FnExactHaveSameInvariantWrongFalsely : Prop := fnExactHaveSameInvariantRow.holds Try.pinned (OpenSpec.ofChange fnExactHaveSameInvariantWrong)

/-- 'laws.FnExactProductOfTwists': WHATEVER THE INPUT: true; the input reads as it did. -/
def fnExactProductOfTwistsSpec : ChangeSpec := { name := "fnExactProductOfTwists", fn := fun _ => fun
  | [d1, d2] => { results := [.lit (.bool true)], args := [d1, d2] }
  | _ => none }
def fnExactProductOfTwistsRow : OpenClaim := { program := "ytcaabbaddghilaa", sum := "eae4a37c38ec3a02eda85ed8a60d2668d2786d707aacc105bfd31b04082fdc51", func := "loop.example/g01004/laws.FnExactProductOfTwists", spec := "fnExactProductOfTwists", apart := false }
def FnExactProductOfTwistsSaid : Prop := fnExactProductOfTwistsRow.holds Try.pinned (OpenSpec.ofChange fnExactProductOfTwistsSpec)

/-- ITS FALSE NEIGHBOUR: 'it returns false'. Refute it at one input. -/
def fnExactProductOfTwistsWrong : ChangeSpec := { name := "fnExactProductOfTwists", fn := fun _ => fun
  | [d1, d2] => { results := [.lit (.bool false)], args := [d1, d2] }
  | _ => none }
def FnExactProductOfTwistsWrongFalsely : Prop := fnExactProductOfTwistsRow.holds Try.pinned (OpenSpec.ofChange fnExactProductOfTwistsWrong)

/-- 'laws.FnExactUntwistCurve': WHATEVER THE INPUT: true; the input reads as it did. -/
def fnExactUntwistCurveSpec : ChangeSpec := { name := "fnExactUntwistCurve", fn := fun _ => fun
  | [d1, d2] => { results := [.lit (.bool true)], args := [d1, d2] }
  | _ => none }
def fnExactUntwistCurveRow : OpenClaim := { program := "ytcaabbaddghilaa", sum := "eae4a37c38ec3a02eda85ed8a60d2668d2786d707aacc105bfd31b04082fdc51", func := "loop.example/g01004/laws.FnExactUntwistCurve", spec := "fnExactUntwistCurve", apart := false }
def FnExactUntwistCurveSaid : Prop := fnExactUntwistCurveRow.holds Try.pinned (OpenSpec.ofChange fnExactUntwistCurveSpec)

/-- ITS FALSE NEIGHBOUR: 'it returns false'. Refute it at one input. -/
def fnExactUntwistCurveWrong : ChangeSpec := { name := "fnExactUntwistCurve", fn := fun _ => fun
  | [d1, d2] => { results := [.lit (.bool false)], args := [d1, d2] }
  | _ => none }
def FnExactUntwistCurveWrongFalsely : Prop := fnExactUntwistCurveRow.holds Try.pinned (OpenSpec.ofChange fnExactUntwistCurveWrong)

/-- 'laws.FnExactNeighbourAt': WHATEVER THE INPUT: true; the input reads as it did. -/
def fnExactNeighbourAtSpec : ChangeSpec := { name := "fnExactNeighbourAt", fn := fun _ => fun
  | [d1, d2] => { results := [.lit (.bool true)], args := [d1, d2] }
  | _ => none }
def fnExactNeighbourAtRow : OpenClaim := { program := "ytcaabbaddghilaa", sum := "eae4a37c38ec3a02eda85ed8a60d2668d2786d707aacc105bfd31b04082fdc51", func := "loop.example/g01004/laws.FnExactNeighbourAt", spec := "fnExactNeighbourAt", apart := false }
def FnExactNeighbourAtSaid : Prop := fnExactNeighbourAtRow.holds Try.pinned (OpenSpec.ofChange fnExactNeighbourAtSpec)

/-- ITS FALSE NEIGHBOUR: 'it returns false'. Refute it at one input. -/
def fnExactNeighbourAtWrong : ChangeSpec := { name := "fnExactNeighbourAt", fn := fun _ => fun
  | [d1, d2] => { results := [.lit (.bool false)], args := [d1, d2] }
  | _ => none }
def FnExactNeighbourAtWrongFalsely : Prop := fnExactNeighbourAtRow.holds Try.pinned (OpenSpec.ofChange fnExactNeighbourAtWrong)

/-- 'laws.FnExactTwistCurve': WHATEVER THE INPUT: true; the input reads as it did. -/
def fnExactTwistCurveSpec : ChangeSpec := { name := "fnExactTwistCurve", fn := fun _ => fun
  | [d1, d2] => { results := [.lit (.bool true)], args := [d1, d2] }
  | _ => none }
def fnExactTwistCurveRow : OpenClaim := { program := "ytcaabbaddghilaa", sum := "eae4a37c38ec3a02eda85ed8a60d2668d2786d707aacc105bfd31b04082fdc51", func := "loop.example/g01004/laws.FnExactTwistCurve", spec := "fnExactTwistCurve", apart := false }
def FnExactTwistCurveSaid : Prop := fnExactTwistCurveRow.holds Try.pinned (OpenSpec.ofChange fnExactTwistCurveSpec)

/-- ITS FALSE NEIGHBOUR: 'it returns false'. Refute it at one input. -/
def fnExactTwistCurveWrong : ChangeSpec := { name := "fnExactTwistCurve", fn := fun _ => fun
  | [d1, d2] => { results := [.lit (.bool false)], args := [d1, d2] }
  | _ => none }
def FnExactTwistCurveWrongFalsely : Prop := fnExactTwistCurveRow.holds Try.pinned (OpenSpec.ofChange fnExactTwistCurveWrong)

/-- 'laws.FnExactIsSupersingularAt': WHATEVER THE INPUT: true; the input reads as it did. -/
def fnExactIsSupersingularAtSpec : ChangeSpec := { name := "fnExactIsSupersingularAt", fn := fun _ => fun
  | [d1, d2] => { results := [.lit (.bool true)], args := [d1, d2] }
  | _ => none }
def fnExactIsSupersingularAtRow : OpenClaim := { program := "ytcaabbaddghilaa", sum := "eae4a37c38ec3a02eda85ed8a60d2668d2786d707aacc105bfd31b04082fdc51", func := "loop.example/g01004/laws.FnExactIsSupersingularAt", spec := "fnExactIsSupersingularAt", apart := false }
def FnExactIsSupersingularAtSaid : Prop := fnExactIsSupersingularAtRow.holds Try.pinned (OpenSpec.ofChange fnExactIsSupersingularAtSpec)

/-- ITS FALSE NEIGHBOUR: 'it returns false'. Refute it at one input. -/
def fnExactIsSupersingularAtWrong : ChangeSpec := { name := "fnExactIsSupersingularAt", fn := fun _ => fun
  | [d1, d2] => { results := [.lit (.bool false)], args := [d1, d2] }
  | _ => none }
def FnExactIsSupersingularAtWrongFalsely : Prop := fnExactIsSupersingularAtRow.holds Try.pinned (OpenSpec.ofChange fnExactIsSupersingularAtWrong)

/-- 'laws.FnExactTraceAt': WHATEVER THE INPUT: true; the input reads as it did. -/
def fnExactTraceAtSpec : ChangeSpec := { name := "fnExactTraceAt", fn := fun _ => fun
  | [d1, d2] => { results := [.lit (.bool true)], args := [d1, d2] }
  | _ => none }
def fnExactTraceAtRow : OpenClaim := { program := "ytcaabbaddghilaa", sum := "eae4a37c38ec3a02eda85ed8a60d2668d2786d707aacc105bfd31b04082fdc51", func := "loop.example/g01004/laws.FnExactTraceAt", spec := "fnExactTraceAt", apart := false }
def FnExactTraceAtSaid : Prop := fnExactTraceAtRow.holds Try.pinned (OpenSpec.ofChange fnExactTraceAtSpec)

/-- ITS FALSE NEIGHBOUR: 'it returns false'. Refute it at one input. -/
def fnExactTraceAtWrong : ChangeSpec := { name := "fnExactTraceAt", fn := fun _ => fun
  | [d1, d2] => { results := [.lit (.bool false)], args := [d1, d2] }
  | _ => none }
def FnExactTraceAtWrongFalsely : Prop := fnExactTraceAtRow.holds Try.pinned (OpenSpec.ofChange fnExactTraceAtWrong)

/-- 'laws.FnExactTwistSymbol': WHATEVER THE INPUT: true; the input reads as it did. -/
def fnExactTwistSymbolSpec : ChangeSpec := { name := "fnExactTwistSymbol", fn := fun _ => fun
  | [d1, d2] => { results := [.lit (.bool true)], args := [d1, d2] }
  | _ => none }
def fnExactTwistSymbolRow : OpenClaim := { program := "ytcaabbaddghilaa", sum := "eae4a37c38ec3a02eda85ed8a60d2668d2786d707aacc105bfd31b04082fdc51", func := "loop.example/g01004/laws.FnExactTwistSymbol", spec := "fnExactTwistSymbol", apart := false }
def FnExactTwistSymbolSaid : Prop := fnExactTwistSymbolRow.holds Try.pinned (OpenSpec.ofChange fnExactTwistSymbolSpec)

/-- ITS FALSE NEIGHBOUR: 'it returns false'. Refute it at one input. -/
def fnExactTwistSymbolWrong : ChangeSpec := { name := "fnExactTwistSymbol", fn := fun _ => fun
  | [d1, d2] => { results := [.lit (.bool false)], args := [d1, d2] }
  | _ => none }
def FnExactTwistSymbolWrongFalsely : Prop := fnExactTwistSymbolRow.holds Try.pinned (OpenSpec.ofChange fnExactTwistSymbolWrong)

/-- 'laws.FnExactTraceOfPower': WHATEVER THE INPUT: true; the input reads as it did. -/
def fnExactTraceOfPowerSpec : ChangeSpec := { name := "fnExactTraceOfPower", fn := fun _ => fun
  | [d1, d2, d3] => { results := [.lit (.bool true)], args := [d1, d2, d3] }
  | _ => none }
def fnExactTraceOfPowerRow : OpenClaim := { program := "ytcaabbaddghilaa", sum := "eae4a37c38ec3a02eda85ed8a60d2668d2786d707aacc105bfd31b04082fdc51", func := "loop.example/g01004/laws.FnExactTraceOfPower", spec := "fnExactTraceOfPower", apart := false }
def FnExactTraceOfPowerSaid : Prop := fnExactTraceOfPowerRow.holds Try.pinned (OpenSpec.ofChange fnExactTraceOfPowerSpec)

/-- ITS FALSE NEIGHBOUR: 'it returns false'. Refute it at one input. -/
def fnExactTraceOfPowerWrong : ChangeSpec := { name := "fnExactTraceOfPower", fn := fun _ => fun
  | [d1, d2, d3] => { results := [.lit (.bool false)], args := [d1, d2, d3] }
  | _ => none }
def FnExactTraceOfPowerWrongFalsely : Prop := fnExactTraceOfPowerRow.holds Try.pinned (OpenSpec.ofChange fnExactTraceOfPowerWrong)

/- THE SECOND FORM. 'bulk': how many values and letters a reading holds, each counted each time it is reached (what is shared counts as often as it is met; a slice's spare places count too). A statement '..UptoSaid' is the law's where the arguments, and the package variables that the reading takes, are together of bulk at most 1048576: NARROWER than '..Said'. Prove '..Said' where nothing that the law and all that it calls make is longer than what came in: it says more and counts as full. Else prove '..UptoSaid'. A law counts once. -/
mutual
def uptoBulk {H : Type} : DataW H → Nat
  | .lit (.string bytes) => bytes.length + 1
  | .lit _ => 1
  | .nil => 1
  | .ptr d => uptoBulk d + 1
  | .slice elems spare => uptoBulkAll elems + uptoBulkAll spare + 1
  | .agg parts => uptoBulkAll parts + 1
  | .iface _ d => uptoBulk d + 1
  | .map entries => uptoBulkEntries entries + 1
  | .held _ => 1
def uptoBulkAll {H : Type} : List (DataW H) → Nat
  | [] => 0
  | d :: r => uptoBulk d + uptoBulkAll r
def uptoBulkEntries {H : Type} : List (Lit × DataW H) → Nat
  | [] => 0
  | x :: r => uptoBulkEntry x + uptoBulkEntries r
def uptoBulkEntry {H : Type} : Lit × DataW H → Nat
  | (.string bytes, d) => bytes.length + uptoBulk d + 1
  | (_, d) => uptoBulk d + 1
 end
def uptoSmall : (H : Type) → List (DataW H) → Bool := fun _ ds => decide (uptoBulkAll ds ≤ 1048576)
def OpenSpec.upto (s : _root_.Go.ChangeSpec) : _root_.Go.OpenSpec := { _root_.Go.OpenSpec.ofChange s with cond := some uptoSmall }

/-- 'laws.FnExactTraceBound', WHERE WHAT IT READS IS OF BULK AT MOST 1048576: true; the input reads as it did. -/
def fnExactTraceBoundUptoRow : OpenClaim := { program := "ytcaabbaddghilaa", sum := "eae4a37c38ec3a02eda85ed8a60d2668d2786d707aacc105bfd31b04082fdc51", func := "loop.example/g01004/laws.FnExactTraceBound", spec := "fnExactTraceBound", apart := false, narrowed := true }
def FnExactTraceBoundUptoSaid : Prop := fnExactTraceBoundUptoRow.holds Try.pinned (OpenSpec.upto fnExactTraceBoundSpec)

/-- 'laws.FnExactIsTwistNumber', WHERE WHAT IT READS IS OF BULK AT MOST 1048576: true; the input reads as it did. -/
def fnExactIsTwistNumberUptoRow : OpenClaim := { program := "ytcaabbaddghilaa", sum := "eae4a37c38ec3a02eda85ed8a60d2668d2786d707aacc105bfd31b04082fdc51", func := "loop.example/g01004/laws.FnExactIsTwistNumber", spec := "fnExactIsTwistNumber", apart := false, narrowed := true }
def FnExactIsTwistNumberUptoSaid : Prop := fnExactIsTwistNumberUptoRow.holds Try.pinned (OpenSpec.upto fnExactIsTwistNumberSpec)

/-- 'laws.FnExactRawNeighbour', WHERE WHAT IT READS IS OF BULK AT MOST 1048576: true; the input reads as it did. -/
def fnExactRawNeighbourUptoRow : OpenClaim := { program := "ytcaabbaddghilaa", sum := "eae4a37c38ec3a02eda85ed8a60d2668d2786d707aacc105bfd31b04082fdc51", func := "loop.example/g01004/laws.FnExactRawNeighbour", spec := "fnExactRawNeighbour", apart := false, narrowed := true }
def FnExactRawNeighbourUptoSaid : Prop := fnExactRawNeighbourUptoRow.holds Try.pinned (OpenSpec.upto fnExactRawNeighbourSpec)

/-- 'laws.FnExactHaveSameInvariant', WHERE WHAT IT READS IS OF BULK AT MOST 1048576: true; the input reads as it did. -/
def fnExactHaveSameInvariantUptoRow : OpenClaim := { program := "ytcaabbaddghilaa", sum := "eae4a37c38ec3a02eda85ed8a60d2668d2786d707aacc105bfd31b04082fdc51", func := "loop.example/g01004/laws.FnExactHaveSameInvariant", spec := "fnExactHaveSameInvariant", apart := false, narrowed := true }
def FnExactHaveSameInvariantUptoSaid : Prop := fnExactHaveSameInvariantUptoRow.holds Try.pinned (OpenSpec.upto fnExactHaveSameInvariantSpec)

/-- 'laws.FnExactProductOfTwists', WHERE WHAT IT READS IS OF BULK AT MOST 1048576: true; the input reads as it did. -/
def fnExactProductOfTwistsUptoRow : OpenClaim := { program := "ytcaabbaddghilaa", sum := "eae4a37c38ec3a02eda85ed8a60d2668d2786d707aacc105bfd31b04082fdc51", func := "loop.example/g01004/laws.FnExactProductOfTwists", spec := "fnExactProductOfTwists", apart := false, narrowed := true }
def FnExactProductOfTwistsUptoSaid : Prop := fnExactProductOfTwistsUptoRow.holds Try.pinned (OpenSpec.upto fnExactProductOfTwistsSpec)

/-- 'laws.FnExactUntwistCurve', WHERE WHAT IT READS IS OF BULK AT MOST 1048576: true; the input reads as it did. -/
def fnExactUntwistCurveUptoRow : OpenClaim := { program := "ytcaabbaddghilaa", sum := "eae4a37c38ec3a02eda85ed8a60d2668d2786d707aacc105bfd31b04082fdc51", func := "loop.example/g01004/laws.FnExactUntwistCurve", spec := "fnExactUntwistCurve", apart := false, narrowed := true }
def FnExactUntwistCurveUptoSaid : Prop := fnExactUntwistCurveUptoRow.holds Try.pinned (OpenSpec.upto fnExactUntwistCurveSpec)

/-- 'laws.FnExactNeighbourAt', WHERE WHAT IT READS IS OF BULK AT MOST 1048576: true; the input reads as it did. -/
def fnExactNeighbourAtUptoRow : OpenClaim := { program := "ytcaabbaddghilaa", sum := "eae4a37c38ec3a02eda85ed8a60d2668d2786d707aacc105bfd31b04082fdc51", func := "loop.example/g01004/laws.FnExactNeighbourAt", spec := "fnExactNeighbourAt", apart := false, narrowed := true }
def FnExactNeighbourAtUptoSaid : Prop := fnExactNeighbourAtUptoRow.holds Try.pinned (OpenSpec.upto fnExactNeighbourAtSpec)

/-- 'laws.FnExactTwistCurve', WHERE WHAT IT READS IS OF BULK AT MOST 1048576: true; the input reads as it did. -/
def fnExactTwistCurveUptoRow : OpenClaim := { program := "ytcaabbaddghilaa", sum := "eae4a37c38ec3a02eda85ed8a60d2668d2786d707aacc105bfd31b04082fdc51", func := "loop.example/g01004/laws.FnExactTwistCurve", spec := "fnExactTwistCurve", apart := false, narrowed := true }
def FnExactTwistCurveUptoSaid : Prop := fnExactTwistCurveUptoRow.holds Try.pinned (OpenSpec.upto fnExactTwistCurveSpec)

/-- 'laws.FnExactIsSupersingularAt', WHERE WHAT IT READS IS OF BULK AT MOST 1048576: true; the input reads as it did. -/
def fnExactIsSupersingularAtUptoRow : OpenClaim := { program := "ytcaabbaddghilaa", sum := "eae4a37c38ec3a02eda85ed8a60d2668d2786d707aacc105bfd31b04082fdc51", func := "loop.example/g01004/laws.FnExactIsSupersingularAt", spec := "fnExactIsSupersingularAt", apart := false, narrowed := true }
def FnExactIsSupersingularAtUptoSaid : Prop := fnExactIsSupersingularAtUptoRow.holds Try.pinned (OpenSpec.upto fnExactIsSupersingularAtSpec)

/-- 'laws.FnExactTraceAt', WHERE WHAT IT READS IS OF BULK AT MOST 1048576: true; the input reads as it did. -/
def fnExactTraceAtUptoRow : OpenClaim := { program := "ytcaabbaddghilaa", sum := "eae4a37c38ec3a02eda85ed8a60d2668d2786d707aacc105bfd31b04082fdc51", func := "loop.example/g01004/laws.FnExactTraceAt", spec := "fnExactTraceAt", apart := false, narrowed := true }
def FnExactTraceAtUptoSaid : Prop := fnExactTraceAtUptoRow.holds Try.pinned (OpenSpec.upto fnExactTraceAtSpec)

/-- 'laws.FnExactTwistSymbol', WHERE WHAT IT READS IS OF BULK AT MOST 1048576: true; the input reads as it did. -/
def fnExactTwistSymbolUptoRow : OpenClaim := { program := "ytcaabbaddghilaa", sum := "eae4a37c38ec3a02eda85ed8a60d2668d2786d707aacc105bfd31b04082fdc51", func := "loop.example/g01004/laws.FnExactTwistSymbol", spec := "fnExactTwistSymbol", apart := false, narrowed := true }
def FnExactTwistSymbolUptoSaid : Prop := fnExactTwistSymbolUptoRow.holds Try.pinned (OpenSpec.upto fnExactTwistSymbolSpec)

/-- 'laws.FnExactTraceOfPower', WHERE WHAT IT READS IS OF BULK AT MOST 1048576: true; the input reads as it did. -/
def fnExactTraceOfPowerUptoRow : OpenClaim := { program := "ytcaabbaddghilaa", sum := "eae4a37c38ec3a02eda85ed8a60d2668d2786d707aacc105bfd31b04082fdc51", func := "loop.example/g01004/laws.FnExactTraceOfPower", spec := "fnExactTraceOfPower", apart := false, narrowed := true }
def FnExactTraceOfPowerUptoSaid : Prop := fnExactTraceOfPowerUptoRow.holds Try.pinned (OpenSpec.upto fnExactTraceOfPowerSpec)

end Rows
end Go.Proofs.Ytcaabbaddghilaa
