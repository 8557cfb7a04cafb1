/-
  No cell of these rows narrows 'for every input' (looked for: loops, veiled, ifaces, maps, wideKeys, modest, calm, conditions, laid).
  DERIVED. THE GIVEN ROWS OF THIS SEAT. 3 by the template 'for every input the law returns true; each argument reads behind the call as it read before'; 0 by the template 'total and deterministic' (their statements: YtfhebjllbmodaaaTotals.lean).
  GIVEN WITH THE SEED: the statements are not yours to turn. If you find one false, say at which input.
  Laid BY PROGRAM, IN A SANDBOX (cutbox-rows.mjs): the forced cells as the released guide's own fill.sh prints them over the translation dbf41c76fea00332… (all of the seat's roots in one cut). By AI agents, Wed Nov 11 2026. No macro, syntax, notation, axiom, sorry.
-/
import Derived.Test.YtfhebjllbmodaaaChecked
import GoSem.Claim
import GoSem.ClaimJoined
import GoSem.ClaimMapViews
import Derived.JoinedTies
import Derived.KernelRfl
namespace Go.Proofs.Ytfhebjllbmodaaa
/- THE CELL 'sum', in the pinned program and in every row, IS THE sha256 OF THE DUMP (.gsa) THAT YtfhebjllbmodaaaProg.lean LOADS. Nothing in Lean hashes anything: it is a label: what it is worth is what the hold of that sum in a sandbox is worth. -/
noncomputable def Try.pinned : Pinned := { name := "ytfhebjllbmodaaa", sum := "dbf41c76fea00332b05dfd7b2f5270794e47018e9f6059600d9a823f314f5ad8", checked := Try.checked }
namespace Rows
def none {H : Type} : Left H := { results := [], args := [] }

/-- 'laws.FnExactCountOver': WHATEVER THE INPUT: true; the input reads as it did. -/
def fnExactCountOverSpec : ChangeSpec := { name := "fnExactCountOver", fn := fun _ => fun
  | [d1, d2, d3] => { results := [.lit (.bool true)], args := [d1, d2, d3] }
  | _ => none }
def fnExactCountOverRow : OpenClaim := { program := "ytfhebjllbmodaaa", sum := "dbf41c76fea00332b05dfd7b2f5270794e47018e9f6059600d9a823f314f5ad8", func := "loop.example/g01004/laws.FnExactCountOver", spec := "fnExactCountOver", apart := false }
def FnExactCountOverSaid : Prop := fnExactCountOverRow.holds Try.pinned (OpenSpec.ofChange fnExactCountOverSpec)

/-- ITS FALSE NEIGHBOUR: 'it returns false'. Refute it at one input. -/
def fnExactCountOverWrong : ChangeSpec := { name := "fnExactCountOver", fn := fun _ => fun
  | [d1, d2, d3] => { results := [.lit (.bool false)], args := [d1, d2, d3] }
  | _ => none }
def FnExactCountOverWrongFalsely : Prop := fnExactCountOverRow.holds Try.pinned (OpenSpec.ofChange fnExactCountOverWrong)

/-- 'laws.FnExactFirstDifference': WHATEVER THE INPUT: true; the input reads as it did. -/
def fnExactFirstDifferenceSpec : ChangeSpec := { name := "fnExactFirstDifference", fn := fun _ => fun
  | [d1, d2, d3] => { results := [.lit (.bool true)], args := [d1, d2, d3] }
  | _ => none }
def fnExactFirstDifferenceRow : OpenClaim := { program := "ytfhebjllbmodaaa", sum := "dbf41c76fea00332b05dfd7b2f5270794e47018e9f6059600d9a823f314f5ad8", func := "loop.example/g01004/laws.FnExactFirstDifference", spec := "fnExactFirstDifference", apart := false }
def FnExactFirstDifferenceSaid : Prop := fnExactFirstDifferenceRow.holds Try.pinned (OpenSpec.ofChange fnExactFirstDifferenceSpec)

/-- ITS FALSE NEIGHBOUR: 'it returns false'. Refute it at one input. -/
def fnExactFirstDifferenceWrong : ChangeSpec := { name := "fnExactFirstDifference", fn := fun _ => fun
  | [d1, d2, d3] => { results := [.lit (.bool false)], args := [d1, d2, d3] }
  | _ => none }
def FnExactFirstDifferenceWrongFalsely : Prop := fnExactFirstDifferenceRow.holds Try.pinned (OpenSpec.ofChange fnExactFirstDifferenceWrong)

/-- 'laws.FnExactHaveSameTraces': WHATEVER THE INPUT: true; the input reads as it did. -/
def fnExactHaveSameTracesSpec : ChangeSpec := { name := "fnExactHaveSameTraces", fn := fun _ => fun
  | [d1, d2, d3] => { results := [.lit (.bool true)], args := [d1, d2, d3] }
  | _ => none }
def fnExactHaveSameTracesRow : OpenClaim := { program := "ytfhebjllbmodaaa", sum := "dbf41c76fea00332b05dfd7b2f5270794e47018e9f6059600d9a823f314f5ad8", func := "loop.example/g01004/laws.FnExactHaveSameTraces", spec := "fnExactHaveSameTraces", apart := false }
def FnExactHaveSameTracesSaid : Prop := fnExactHaveSameTracesRow.holds Try.pinned (OpenSpec.ofChange fnExactHaveSameTracesSpec)

/-- ITS FALSE NEIGHBOUR: 'it returns false'. Refute it at one input. -/
def fnExactHaveSameTracesWrong : ChangeSpec := { name := "fnExactHaveSameTraces", fn := fun _ => fun
  | [d1, d2, d3] => { results := [.lit (.bool false)], args := [d1, d2, d3] }
  | _ => none }
def FnExactHaveSameTracesWrongFalsely : Prop := fnExactHaveSameTracesRow.holds Try.pinned (OpenSpec.ofChange fnExactHaveSameTracesWrong)

/- THE SECOND FORM. 'bulk': how many values and letters a reading holds, each counted each time it is reached (what is shared counts as often as it is met; a slice's spare places count too). A statement '..UptoSaid' is the law's where the arguments, and the package variables that the reading takes, are together of bulk at most 1048576: NARROWER than '..Said'. Prove '..Said' where nothing that the law and all that it calls make is longer than what came in: it says more and counts as full. Else prove '..UptoSaid'. A law counts once. -/
mutual
def uptoBulk {H : Type} : DataW H → Nat
  | .lit (.string bytes) => bytes.length + 1
  | .lit _ => 1
  | .nil => 1
  | .ptr d => uptoBulk d + 1
  | .slice elems spare => uptoBulkAll elems + uptoBulkAll spare + 1
  | .agg parts => uptoBulkAll parts + 1
  | .iface _ d => uptoBulk d + 1
  | .map entries => uptoBulkEntries entries + 1
  | .held _ => 1
def uptoBulkAll {H : Type} : List (DataW H) → Nat
  | [] => 0
  | d :: r => uptoBulk d + uptoBulkAll r
def uptoBulkEntries {H : Type} : List (Lit × DataW H) → Nat
  | [] => 0
  | x :: r => uptoBulkEntry x + uptoBulkEntries r
def uptoBulkEntry {H : Type} : Lit × DataW H → Nat
  | (.string bytes, d) => bytes.length + uptoBulk d + 1
  | (_, d) => uptoBulk d + 1
 end
def uptoSmall : (H : Type) → List (DataW H) → Bool := fun _ ds => decide (uptoBulkAll ds ≤ 1048576)
def OpenSpec.upto (s : _root_.Go.ChangeSpec) : _root_.Go.OpenSpec := { _root_.Go.OpenSpec.ofChange s with cond := some uptoSmall }

/-- 'laws.FnExactCountOver', WHERE WHAT IT READS IS OF BULK AT MOST 1048576: true; the input reads as it did. -/
def fnExactCountOverUptoRow : OpenClaim := { program := "ytfhebjllbmodaaa", sum := "dbf41c76fea00332b05dfd7b2f5270794e47018e9f6059600d9a823f314f5ad8", func := "loop.example/g01004/laws.FnExactCountOver", spec := "fnExactCountOver", apart := false, narrowed := true }
def FnExactCountOverUptoSaid : Prop := fnExactCountOverUptoRow.holds Try.pinned (OpenSpec.upto fnExactCountOverSpec)

/-- 'laws.FnExactFirstDifference', WHERE WHAT IT READS IS OF BULK AT MOST 1048576: true; the input reads as it did. -/
def fnExactFirstDifferenceUptoRow : OpenClaim := { program := "ytfhebjllbmodaaa", sum := "dbf41c76fea00332b05dfd7b2f5270794e47018e9f6059600d9a823f314f5ad8", func := "loop.example/g01004/laws.FnExactFirstDifference", spec := "fnExactFirstDifference", apart := false, narrowed := true }
def FnExactFirstDifferenceUptoSaid : Prop := fnExactFirstDifferenceUptoRow.holds Try.pinned (OpenSpec.upto fnExactFirstDifferenceSpec)

/-- 'laws.FnExactHaveSameTraces', WHERE WHAT IT READS IS OF BULK AT MOST 1048576: true; the input reads as it did. -/
def fnExactHaveSameTracesUptoRow : OpenClaim := { program := "ytfhebjllbmodaaa", sum := "dbf41c76fea00332b05dfd7b2f5270794e47018e9f6059600d9a823f314f5ad8", func := "loop.example/g01004/laws.FnExactHaveSameTraces", spec := "fnExactHaveSameTraces", apart := false, narrowed := true }
def FnExactHaveSameTracesUptoSaid : Prop := fnExactHaveSameTracesUptoRow.holds Try.pinned (OpenSpec.upto fnExactHaveSameTracesSpec)

end Rows
end Go.Proofs.Ytfhebjllbmodaaa
