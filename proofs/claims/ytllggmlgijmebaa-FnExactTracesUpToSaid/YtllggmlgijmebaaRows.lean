/-
  No cell of these rows narrows 'for every input' (looked for: loops, veiled, ifaces, maps, wideKeys, modest, calm, conditions, laid).
  DERIVED. THE GIVEN ROWS OF THIS SEAT. 4 by the template 'for every input the law returns true; each argument reads behind the call as it read before'; 0 by the template 'total and deterministic' (their statements: YtllggmlgijmebaaTotals.lean).
  GIVEN WITH THE SEED: the statements are not yours to turn. If you find one false, say at which input.
  Laid BY PROGRAM, IN A SANDBOX (cutbox-rows.mjs): the forced cells as the released guide's own fill.sh prints them over the translation a16f22e2205a5fd6… (all of the seat's roots in one cut). By AI agents, Wed Nov 11 2026. No macro, syntax, notation, axiom, sorry.
-/
import Derived.Test.YtllggmlgijmebaaChecked
import GoSem.Claim
import GoSem.ClaimJoined
import GoSem.ClaimMapViews
import Derived.JoinedTies
import Derived.KernelRfl
namespace Go.Proofs.Ytllggmlgijmebaa
/- THE CELL 'sum', in the pinned program and in every row, IS THE sha256 OF THE DUMP (.gsa) THAT YtllggmlgijmebaaProg.lean LOADS. Nothing in Lean hashes anything: it is a label: what it is worth is what the hold of that sum in a sandbox is worth. -/
noncomputable def Try.pinned : Pinned := { name := "ytllggmlgijmebaa", sum := "a16f22e2205a5fd643fdb2d9d367f23180b76dada0e98b1ecc15d89b33ac7b7c", checked := Try.checked }
namespace Rows
def none {H : Type} : Left H := { results := [], args := [] }

/-- 'laws.FnExactTwistsOf': WHATEVER THE INPUT: true; the input reads as it did. -/
def fnExactTwistsOfSpec : ChangeSpec := { name := "fnExactTwistsOf", fn := fun _ => fun
  | [d] => { results := [.lit (.bool true)], args := [d] }
  | _ => none }
def fnExactTwistsOfRow : OpenClaim := { program := "ytllggmlgijmebaa", sum := "a16f22e2205a5fd643fdb2d9d367f23180b76dada0e98b1ecc15d89b33ac7b7c", func := "loop.example/g01004/laws.FnExactTwistsOf", spec := "fnExactTwistsOf", apart := false }
def FnExactTwistsOfSaid : Prop := fnExactTwistsOfRow.holds Try.pinned (OpenSpec.ofChange fnExactTwistsOfSpec)

/-- ITS FALSE NEIGHBOUR: 'it returns false'. Refute it at one input. -/
def fnExactTwistsOfWrong : ChangeSpec := { name := "fnExactTwistsOf", fn := fun _ => fun
  | [d] => { results := [.lit (.bool false)], args := [d] }
  | _ => none }
def FnExactTwistsOfWrongFalsely : Prop := fnExactTwistsOfRow.holds Try.pinned (OpenSpec.ofChange fnExactTwistsOfWrong)

/-- 'laws.FnExactTwistCounts': WHATEVER THE INPUT: true; the input reads as it did. -/
def fnExactTwistCountsSpec : ChangeSpec := { name := "fnExactTwistCounts", fn := fun _ => fun
  | [d1, d2, d3] => { results := [.lit (.bool true)], args := [d1, d2, d3] }
  | _ => none }
def fnExactTwistCountsRow : OpenClaim := { program := "ytllggmlgijmebaa", sum := "a16f22e2205a5fd643fdb2d9d367f23180b76dada0e98b1ecc15d89b33ac7b7c", func := "loop.example/g01004/laws.FnExactTwistCounts", spec := "fnExactTwistCounts", apart := false }
def FnExactTwistCountsSaid : Prop := fnExactTwistCountsRow.holds Try.pinned (OpenSpec.ofChange fnExactTwistCountsSpec)

/-- ITS FALSE NEIGHBOUR: 'it returns false'. Refute it at one input. -/
def fnExactTwistCountsWrong : ChangeSpec := { name := "fnExactTwistCounts", fn := fun _ => fun
  | [d1, d2, d3] => { results := [.lit (.bool false)], args := [d1, d2, d3] }
  | _ => none }
def FnExactTwistCountsWrongFalsely : Prop := fnExactTwistCountsRow.holds Try.pinned (OpenSpec.ofChange fnExactTwistCountsWrong)

/-- 'laws.FnExactTracesUpTo': WHATEVER THE INPUT: true; the input reads as it did. -/
def fnExactTracesUpToSpec : ChangeSpec := { name := "fnExactTracesUpTo", fn := fun _ => fun
  | [d1, d2] => { results := [.lit (.bool true)], args := [d1, d2] }
  | _ => none }
def fnExactTracesUpToRow : OpenClaim := { program := "ytllggmlgijmebaa", sum := "a16f22e2205a5fd643fdb2d9d367f23180b76dada0e98b1ecc15d89b33ac7b7c", func := "loop.example/g01004/laws.FnExactTracesUpTo", spec := "fnExactTracesUpTo", apart := false }
def FnExactTracesUpToSaid : Prop := fnExactTracesUpToRow.holds Try.pinned (OpenSpec.ofChange fnExactTracesUpToSpec)

/-- ITS FALSE NEIGHBOUR: 'it returns false'. Refute it at one input. -/
def fnExactTracesUpToWrong : ChangeSpec := { name := "fnExactTracesUpTo", fn := fun _ => fun
  | [d1, d2] => { results := [.lit (.bool false)], args := [d1, d2] }
  | _ => none }
def FnExactTracesUpToWrongFalsely : Prop := fnExactTracesUpToRow.holds Try.pinned (OpenSpec.ofChange fnExactTracesUpToWrong)

/-- 'laws.FnExactMeanTrace': WHATEVER THE INPUT: true; the input reads as it did. -/
def fnExactMeanTraceSpec : ChangeSpec := { name := "fnExactMeanTrace", fn := fun _ => fun
  | [d1, d2] => { results := [.lit (.bool true)], args := [d1, d2] }
  | _ => none }
def fnExactMeanTraceRow : OpenClaim := { program := "ytllggmlgijmebaa", sum := "a16f22e2205a5fd643fdb2d9d367f23180b76dada0e98b1ecc15d89b33ac7b7c", func := "loop.example/g01004/laws.FnExactMeanTrace", spec := "fnExactMeanTrace", apart := false }
def FnExactMeanTraceSaid : Prop := fnExactMeanTraceRow.holds Try.pinned (OpenSpec.ofChange fnExactMeanTraceSpec)

/-- ITS FALSE NEIGHBOUR: 'it returns false'. Refute it at one input. -/
def fnExactMeanTraceWrong : ChangeSpec := { name := "fnExactMeanTrace", fn := fun _ => fun
  | [d1, d2] => { results := [.lit (.bool false)], args := [d1, d2] }
  | _ => none }
def FnExactMeanTraceWrongFalsely : Prop := fnExactMeanTraceRow.holds Try.pinned (OpenSpec.ofChange fnExactMeanTraceWrong)

/- THE SECOND FORM. 'bulk': how many values and letters a reading holds, each counted each time it is reached (what is shared counts as often as it is met; a slice's spare places count too). A statement '..UptoSaid' is the law's where the arguments, and the package variables that the reading takes, are together of bulk at most 1048576: NARROWER than '..Said'. Prove '..Said' where nothing that the law and all that it calls make is longer than what came in: it says more and counts as full. Else prove '..UptoSaid'. A law counts once. -/
mutual
def uptoBulk {H : Type} : DataW H → Nat
  | .lit (.string bytes) => bytes.length + 1
  | .lit _ => 1
  | .nil => 1
  | .ptr d => uptoBulk d + 1
  | .slice elems spare => uptoBulkAll elems + uptoBulkAll spare + 1
  | .agg parts => uptoBulkAll parts + 1
  | .iface _ d => uptoBulk d + 1
  | .map entries => uptoBulkEntries entries + 1
  | .held _ => 1
def uptoBulkAll {H : Type} : List (DataW H) → Nat
  | [] => 0
  | d :: r => uptoBulk d + uptoBulkAll r
def uptoBulkEntries {H : Type} : List (Lit × DataW H) → Nat
  | [] => 0
  | x :: r => uptoBulkEntry x + uptoBulkEntries r
def uptoBulkEntry {H : Type} : Lit × DataW H → Nat
  | (.string bytes, d) => bytes.length + uptoBulk d + 1
  | (_, d) => uptoBulk d + 1
 end
def uptoSmall : (H : Type) → List (DataW H) → Bool := fun _ ds => decide (uptoBulkAll ds ≤ 1048576)
def OpenSpec.upto (s : _root_.Go.ChangeSpec) : _root_.Go.OpenSpec := { _root_.Go.OpenSpec.ofChange s with cond := some uptoSmall }

/-- 'laws.FnExactTwistsOf', WHERE WHAT IT READS IS OF BULK AT MOST 1048576: true; the input reads as it did. -/
def fnExactTwistsOfUptoRow : OpenClaim := { program := "ytllggmlgijmebaa", sum := "a16f22e2205a5fd643fdb2d9d367f23180b76dada0e98b1ecc15d89b33ac7b7c", func := "loop.example/g01004/laws.FnExactTwistsOf", spec := "fnExactTwistsOf", apart := false, narrowed := true }
def FnExactTwistsOfUptoSaid : Prop := fnExactTwistsOfUptoRow.holds Try.pinned (OpenSpec.upto fnExactTwistsOfSpec)

/-- 'laws.FnExactTwistCounts', WHERE WHAT IT READS IS OF BULK AT MOST 1048576: true; the input reads as it did. -/
def fnExactTwistCountsUptoRow : OpenClaim := { program := "ytllggmlgijmebaa", sum := "a16f22e2205a5fd643fdb2d9d367f23180b76dada0e98b1ecc15d89b33ac7b7c", func := "loop.example/g01004/laws.FnExactTwistCounts", spec := "fnExactTwistCounts", apart := false, narrowed := true }
def FnExactTwistCountsUptoSaid : Prop := fnExactTwistCountsUptoRow.holds Try.pinned (OpenSpec.upto fnExactTwistCountsSpec)

/-- 'laws.FnExactTracesUpTo', WHERE WHAT IT READS IS OF BULK AT MOST 1048576: true; the input reads as it did. -/
def fnExactTracesUpToUptoRow : OpenClaim := { program := "ytllggmlgijmebaa", sum := "a16f22e2205a5fd643fdb2d9d367f23180b76dada0e98b1ecc15d89b33ac7b7c", func := "loop.example/g01004/laws.FnExactTracesUpTo", spec := "fnExactTracesUpTo", apart := false, narrowed := true }
def FnExactTracesUpToUptoSaid : Prop := fnExactTracesUpToUptoRow.holds Try.pinned (OpenSpec.upto fnExactTracesUpToSpec)

/-- 'laws.FnExactMeanTrace', WHERE WHAT IT READS IS OF BULK AT MOST 1048576: true; the input reads as it did. -/
def fnExactMeanTraceUptoRow : OpenClaim := { program := "ytllggmlgijmebaa", sum := "a16f22e2205a5fd643fdb2d9d367f23180b76dada0e98b1ecc15d89b33ac7b7c", func := "loop.example/g01004/laws.FnExactMeanTrace", spec := "fnExactMeanTrace", apart := false, narrowed := true }
def FnExactMeanTraceUptoSaid : Prop := fnExactMeanTraceUptoRow.holds Try.pinned (OpenSpec.upto fnExactMeanTraceSpec)

end Rows
end Go.Proofs.Ytllggmlgijmebaa
