/-
  No cell of these rows narrows 'for every input' (looked for: loops, veiled, ifaces, maps, wideKeys, modest, calm, conditions, laid).
  DERIVED. THE GIVEN ROWS OF THIS SEAT. 6 by the template 'for every input the law returns true; each argument reads behind the call as it read before'; 0 by the template 'total and deterministic' (their statements: YtmipenpeebmjkaaGreatTotals.lean).
  GIVEN WITH THE SEED: the statements are not yours to turn. If you find one false, say at which input.
  Laid BY PROGRAM, IN A SANDBOX (cutbox-rows.mjs): the forced cells as the released guide's own fill.sh prints them over the translation 17dff1831c3510d8… (all of the seat's roots in one cut). By AI agents, Wed Nov 11 2026. No macro, syntax, notation, axiom, sorry.
-/
import Derived.Test.YtmipenpeebmjkaaGreatChecked
import GoSem.Claim
import GoSem.ClaimJoined
import GoSem.ClaimMapViews
import Derived.JoinedTies
import Derived.KernelRfl
namespace Go.Proofs.YtmipenpeebmjkaaGreat
/- THE CELL 'sum', in the pinned program and in every row, IS THE sha256 OF THE DUMP (.gsa) THAT YtmipenpeebmjkaaGreatProg.lean LOADS. Nothing in Lean hashes anything: it is a label: what it is worth is what the hold of that sum in a sandbox is worth. -/
noncomputable def Tryz.pinned : Pinned := { name := "ytmipenpeebmjkaagreat", sum := "17dff1831c3510d85ea70d58676d0e1d0aeb83dd7587e7440b81a3ca9eb5c318", checked := Tryz.checked }
namespace Rows
def none {H : Type} : Left H := { results := [], args := [] }

/-- 'laws.FnExactOpenCount': WHATEVER THE INPUT: true; the input reads as it did. -/
def fnExactOpenCountSpec : ChangeSpec := { name := "fnExactOpenCount", fn := fun _ => fun
  | [d1, d2] => { results := [.lit (.bool true)], args := [d1, d2] }
  | _ => none }
def fnExactOpenCountRow : OpenClaim := { program := "ytmipenpeebmjkaagreat", sum := "17dff1831c3510d85ea70d58676d0e1d0aeb83dd7587e7440b81a3ca9eb5c318", func := "loop.example/g01004/laws.FnExactOpenCount", spec := "fnExactOpenCount", inPlace := ["math.sqrt"], unfollowed := true, recurses := true, apart := false }
def FnExactOpenCountSaid : Prop := fnExactOpenCountRow.holds Tryz.pinned (OpenSpec.ofChange fnExactOpenCountSpec)

/-- ITS FALSE NEIGHBOUR: 'it returns false'. Refute it at one input. -/
def fnExactOpenCountWrong : ChangeSpec := { name := "fnExactOpenCount", fn := fun _ => fun
  | [d1, d2] => { results := [.lit (.bool false)], args := [d1, d2] }
  | _ => none }
def FnExactOpenCountWrongFalsely : Prop := fnExactOpenCountRow.holds Tryz.pinned (OpenSpec.ofChange fnExactOpenCountWrong)

/-- 'laws.FnExactOpenDivisors': WHATEVER THE INPUT: true; the input reads as it did. -/
def fnExactOpenDivisorsSpec : ChangeSpec := { name := "fnExactOpenDivisors", fn := fun _ => fun
  | [d1, d2, d3] => { results := [.lit (.bool true)], args := [d1, d2, d3] }
  | _ => none }
def fnExactOpenDivisorsRow : OpenClaim := { program := "ytmipenpeebmjkaagreat", sum := "17dff1831c3510d85ea70d58676d0e1d0aeb83dd7587e7440b81a3ca9eb5c318", func := "loop.example/g01004/laws.FnExactOpenDivisors", spec := "fnExactOpenDivisors", inPlace := ["math.sqrt"], unfollowed := true, recurses := true, apart := false }
def FnExactOpenDivisorsSaid : Prop := fnExactOpenDivisorsRow.holds Tryz.pinned (OpenSpec.ofChange fnExactOpenDivisorsSpec)

/-- ITS FALSE NEIGHBOUR: 'it returns false'. Refute it at one input. -/
def fnExactOpenDivisorsWrong : ChangeSpec := { name := "fnExactOpenDivisors", fn := fun _ => fun
  | [d1, d2, d3] => { results := [.lit (.bool false)], args := [d1, d2, d3] }
  | _ => none }
def FnExactOpenDivisorsWrongFalsely : Prop := fnExactOpenDivisorsRow.holds Tryz.pinned (OpenSpec.ofChange fnExactOpenDivisorsWrong)

/-- 'laws.FnExactRankBounds': WHATEVER THE INPUT: true; the input reads as it did. -/
def fnExactRankBoundsSpec : ChangeSpec := { name := "fnExactRankBounds", fn := fun _ => fun
  | [d1, d2] => { results := [.lit (.bool true)], args := [d1, d2] }
  | _ => none }
def fnExactRankBoundsRow : OpenClaim := { program := "ytmipenpeebmjkaagreat", sum := "17dff1831c3510d85ea70d58676d0e1d0aeb83dd7587e7440b81a3ca9eb5c318", func := "loop.example/g01004/laws.FnExactRankBounds", spec := "fnExactRankBounds", inPlace := ["math.sqrt"], unfollowed := true, recurses := true, apart := false }
def FnExactRankBoundsSaid : Prop := fnExactRankBoundsRow.holds Tryz.pinned (OpenSpec.ofChange fnExactRankBoundsSpec)

/-- ITS FALSE NEIGHBOUR: 'it returns false'. Refute it at one input. -/
def fnExactRankBoundsWrong : ChangeSpec := { name := "fnExactRankBounds", fn := fun _ => fun
  | [d1, d2] => { results := [.lit (.bool false)], args := [d1, d2] }
  | _ => none }
def FnExactRankBoundsWrongFalsely : Prop := fnExactRankBoundsRow.holds Tryz.pinned (OpenSpec.ofChange fnExactRankBoundsWrong)

/-- 'laws.FnExactClaimHolds': WHATEVER THE INPUT: true; the input reads as it did. -/
def fnExactClaimHoldsSpec : ChangeSpec := { name := "fnExactClaimHolds", fn := fun _ => fun
  | [d1, d2, d3, d4] => { results := [.lit (.bool true)], args := [d1, d2, d3, d4] }
  | _ => none }
def fnExactClaimHoldsRow : OpenClaim := { program := "ytmipenpeebmjkaagreat", sum := "17dff1831c3510d85ea70d58676d0e1d0aeb83dd7587e7440b81a3ca9eb5c318", func := "loop.example/g01004/laws.FnExactClaimHolds", spec := "fnExactClaimHolds", inPlace := ["math.sqrt"], unfollowed := true, recurses := true, apart := false }
def FnExactClaimHoldsSaid : Prop := fnExactClaimHoldsRow.holds Tryz.pinned (OpenSpec.ofChange fnExactClaimHoldsSpec)

/-- ITS FALSE NEIGHBOUR: 'it returns false'. Refute it at one input. -/
def fnExactClaimHoldsWrong : ChangeSpec := { name := "fnExactClaimHolds", fn := fun _ => fun
  | [d1, d2, d3, d4] => { results := [.lit (.bool false)], args := [d1, d2, d3, d4] }
  | _ => none }
def FnExactClaimHoldsWrongFalsely : Prop := fnExactClaimHoldsRow.holds Tryz.pinned (OpenSpec.ofChange fnExactClaimHoldsWrong)

/-- 'laws.FnExactIsRankKnown': WHATEVER THE INPUT: true; the input reads as it did. -/
def fnExactIsRankKnownSpec : ChangeSpec := { name := "fnExactIsRankKnown", fn := fun _ => fun
  | [d1, d2] => { results := [.lit (.bool true)], args := [d1, d2] }
  | _ => none }
def fnExactIsRankKnownRow : OpenClaim := { program := "ytmipenpeebmjkaagreat", sum := "17dff1831c3510d85ea70d58676d0e1d0aeb83dd7587e7440b81a3ca9eb5c318", func := "loop.example/g01004/laws.FnExactIsRankKnown", spec := "fnExactIsRankKnown", inPlace := ["math.sqrt"], unfollowed := true, recurses := true, apart := false }
def FnExactIsRankKnownSaid : Prop := fnExactIsRankKnownRow.holds Tryz.pinned (OpenSpec.ofChange fnExactIsRankKnownSpec)

/-- ITS FALSE NEIGHBOUR: 'it returns false'. Refute it at one input. -/
def fnExactIsRankKnownWrong : ChangeSpec := { name := "fnExactIsRankKnown", fn := fun _ => fun
  | [d1, d2] => { results := [.lit (.bool false)], args := [d1, d2] }
  | _ => none }
def FnExactIsRankKnownWrongFalsely : Prop := fnExactIsRankKnownRow.holds Tryz.pinned (OpenSpec.ofChange fnExactIsRankKnownWrong)

/-- 'laws.FnExactLeastSearch': WHATEVER THE INPUT: true; the input reads as it did. -/
def fnExactLeastSearchSpec : ChangeSpec := { name := "fnExactLeastSearch", fn := fun _ => fun
  | [d1, d2] => { results := [.lit (.bool true)], args := [d1, d2] }
  | _ => none }
def fnExactLeastSearchRow : OpenClaim := { program := "ytmipenpeebmjkaagreat", sum := "17dff1831c3510d85ea70d58676d0e1d0aeb83dd7587e7440b81a3ca9eb5c318", func := "loop.example/g01004/laws.FnExactLeastSearch", spec := "fnExactLeastSearch", inPlace := ["math.sqrt"], unfollowed := true, recurses := true, apart := false }
def FnExactLeastSearchSaid : Prop := fnExactLeastSearchRow.holds Tryz.pinned (OpenSpec.ofChange fnExactLeastSearchSpec)

/-- ITS FALSE NEIGHBOUR: 'it returns false'. Refute it at one input. -/
def fnExactLeastSearchWrong : ChangeSpec := { name := "fnExactLeastSearch", fn := fun _ => fun
  | [d1, d2] => { results := [.lit (.bool false)], args := [d1, d2] }
  | _ => none }
def FnExactLeastSearchWrongFalsely : Prop := fnExactLeastSearchRow.holds Tryz.pinned (OpenSpec.ofChange fnExactLeastSearchWrong)

/- THE SECOND FORM. 'bulk': how many values and letters a reading holds, each counted each time it is reached (what is shared counts as often as it is met; a slice's spare places count too). A statement '..UptoSaid' is the law's where the arguments, and the package variables that the reading takes, are together of bulk at most 1048576: NARROWER than '..Said'. Prove '..Said' where nothing that the law and all that it calls make is longer than what came in: it says more and counts as full. Else prove '..UptoSaid'. A law counts once. -/
mutual
def uptoBulk {H : Type} : DataW H → Nat
  | .lit (.string bytes) => bytes.length + 1
  | .lit _ => 1
  | .nil => 1
  | .ptr d => uptoBulk d + 1
  | .slice elems spare => uptoBulkAll elems + uptoBulkAll spare + 1
  | .agg parts => uptoBulkAll parts + 1
  | .iface _ d => uptoBulk d + 1
  | .map entries => uptoBulkEntries entries + 1
  | .held _ => 1
def uptoBulkAll {H : Type} : List (DataW H) → Nat
  | [] => 0
  | d :: r => uptoBulk d + uptoBulkAll r
def uptoBulkEntries {H : Type} : List (Lit × DataW H) → Nat
  | [] => 0
  | x :: r => uptoBulkEntry x + uptoBulkEntries r
def uptoBulkEntry {H : Type} : Lit × DataW H → Nat
  | (.string bytes, d) => bytes.length + uptoBulk d + 1
  | (_, d) => uptoBulk d + 1
 end
def uptoSmall : (H : Type) → List (DataW H) → Bool := fun _ ds => decide (uptoBulkAll ds ≤ 1048576)
def OpenSpec.upto (s : _root_.Go.ChangeSpec) : _root_.Go.OpenSpec := { _root_.Go.OpenSpec.ofChange s with cond := some uptoSmall }

/-- 'laws.FnExactOpenCount', WHERE WHAT IT READS IS OF BULK AT MOST 1048576: true; the input reads as it did. -/
def fnExactOpenCountUptoRow : OpenClaim := { program := "ytmipenpeebmjkaagreat", sum := "17dff1831c3510d85ea70d58676d0e1d0aeb83dd7587e7440b81a3ca9eb5c318", func := "loop.example/g01004/laws.FnExactOpenCount", spec := "fnExactOpenCount", inPlace := ["math.sqrt"], unfollowed := true, recurses := true, apart := false, narrowed := true }
def FnExactOpenCountUptoSaid : Prop := fnExactOpenCountUptoRow.holds Tryz.pinned (OpenSpec.upto fnExactOpenCountSpec)

/-- 'laws.FnExactOpenDivisors', WHERE WHAT IT READS IS OF BULK AT MOST 1048576: true; the input reads as it did. -/
def fnExactOpenDivisorsUptoRow : OpenClaim := { program := "ytmipenpeebmjkaagreat", sum := "17dff1831c3510d85ea70d58676d0e1d0aeb83dd7587e7440b81a3ca9eb5c318", func := "loop.example/g01004/laws.FnExactOpenDivisors", spec := "fnExactOpenDivisors", inPlace := ["math.sqrt"], unfollowed := true, recurses := true, apart := false, narrowed := true }
def FnExactOpenDivisorsUptoSaid : Prop := fnExactOpenDivisorsUptoRow.holds Tryz.pinned (OpenSpec.upto fnExactOpenDivisorsSpec)

/-- 'laws.FnExactRankBounds', WHERE WHAT IT READS IS OF BULK AT MOST 1048576: true; the input reads as it did. -/
def fnExactRankBoundsUptoRow : OpenClaim := { program := "ytmipenpeebmjkaagreat", sum := "17dff1831c3510d85ea70d58676d0e1d0aeb83dd7587e7440b81a3ca9eb5c318", func := "loop.example/g01004/laws.FnExactRankBounds", spec := "fnExactRankBounds", inPlace := ["math.sqrt"], unfollowed := true, recurses := true, apart := false, narrowed := true }
def FnExactRankBoundsUptoSaid : Prop := fnExactRankBoundsUptoRow.holds Tryz.pinned (OpenSpec.upto fnExactRankBoundsSpec)

/-- 'laws.FnExactClaimHolds', WHERE WHAT IT READS IS OF BULK AT MOST 1048576: true; the input reads as it did. -/
def fnExactClaimHoldsUptoRow : OpenClaim := { program := "ytmipenpeebmjkaagreat", sum := "17dff1831c3510d85ea70d58676d0e1d0aeb83dd7587e7440b81a3ca9eb5c318", func := "loop.example/g01004/laws.FnExactClaimHolds", spec := "fnExactClaimHolds", inPlace := ["math.sqrt"], unfollowed := true, recurses := true, apart := false, narrowed := true }
def FnExactClaimHoldsUptoSaid : Prop := fnExactClaimHoldsUptoRow.holds Tryz.pinned (OpenSpec.upto fnExactClaimHoldsSpec)

/-- 'laws.FnExactIsRankKnown', WHERE WHAT IT READS IS OF BULK AT MOST 1048576: true; the input reads as it did. -/
def fnExactIsRankKnownUptoRow : OpenClaim := { program := "ytmipenpeebmjkaagreat", sum := "17dff1831c3510d85ea70d58676d0e1d0aeb83dd7587e7440b81a3ca9eb5c318", func := "loop.example/g01004/laws.FnExactIsRankKnown", spec := "fnExactIsRankKnown", inPlace := ["math.sqrt"], unfollowed := true, recurses := true, apart := false, narrowed := true }
def FnExactIsRankKnownUptoSaid : Prop := fnExactIsRankKnownUptoRow.holds Tryz.pinned (OpenSpec.upto fnExactIsRankKnownSpec)

/-- 'laws.FnExactLeastSearch', WHERE WHAT IT READS IS OF BULK AT MOST 1048576: true; the input reads as it did. -/
def fnExactLeastSearchUptoRow : OpenClaim := { program := "ytmipenpeebmjkaagreat", sum := "17dff1831c3510d85ea70d58676d0e1d0aeb83dd7587e7440b81a3ca9eb5c318", func := "loop.example/g01004/laws.FnExactLeastSearch", spec := "fnExactLeastSearch", inPlace := ["math.sqrt"], unfollowed := true, recurses := true, apart := false, narrowed := true }
def FnExactLeastSearchUptoSaid : Prop := fnExactLeastSearchUptoRow.holds Tryz.pinned (OpenSpec.upto fnExactLeastSearchSpec)

end Rows
end Go.Proofs.YtmipenpeebmjkaaGreat
