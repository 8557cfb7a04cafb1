/-
  No cell of these rows narrows 'for every input' (looked for: loops, veiled, ifaces, maps, wideKeys, modest, calm, conditions, laid).
  DERIVED. THE GIVEN ROWS OF THIS SEAT. 3 by the template 'for every input the law returns true; each argument reads behind the call as it read before'; 0 by the template 'total and deterministic' (their statements: YtggekfbfechonaaGreatTotals.lean).
  GIVEN WITH THE SEED: the statements are not yours to turn. If you find one false, say at which input.
  Laid BY PROGRAM, IN A SANDBOX (cutbox-rows.mjs): the forced cells as the released guide's own fill.sh prints them over the translation f444db210ee4d35c… (all of the seat's roots in one cut). By AI agents, Wed Nov 11 2026. No macro, syntax, notation, axiom, sorry.
-/
import Derived.Test.YtggekfbfechonaaGreatChecked
import GoSem.Claim
import GoSem.ClaimJoined
import GoSem.ClaimMapViews
import Derived.JoinedTies
import Derived.KernelRfl
namespace Go.Proofs.YtggekfbfechonaaGreat
/- THE CELL 'sum', in the pinned program and in every row, IS THE sha256 OF THE DUMP (.gsa) THAT YtggekfbfechonaaGreatProg.lean LOADS. Nothing in Lean hashes anything: it is a label: what it is worth is what the hold of that sum in a sandbox is worth. -/
noncomputable def Tryz.pinned : Pinned := { name := "ytggekfbfechonaagreat", sum := "f444db210ee4d35c2946b1557e93d6542cae3c55e2ed32405b62f3bee083375f", checked := Tryz.checked }
namespace Rows
def none {H : Type} : Left H := { results := [], args := [] }

/-- 'laws.FnHeights': WHATEVER THE INPUT: true; the input reads as it did. -/
def fnHeightsSpec : ChangeSpec := { name := "fnHeights", fn := fun _ => fun
  | [d1, d2] => { results := [.lit (.bool true)], args := [d1, d2] }
  | _ => none }
def fnHeightsRow : OpenClaim := { program := "ytggekfbfechonaagreat", sum := "f444db210ee4d35c2946b1557e93d6542cae3c55e2ed32405b62f3bee083375f", func := "loop.example/g01004/laws.FnHeights", spec := "fnHeights", inPlace := ["math.sqrt"], apart := false }
def FnHeightsSaid : Prop := fnHeightsRow.holds Tryz.pinned (OpenSpec.ofChange fnHeightsSpec)

/-- ITS FALSE NEIGHBOUR: 'it returns false'. Refute it at one input. -/
def fnHeightsWrong : ChangeSpec := { name := "fnHeights", fn := fun _ => fun
  | [d1, d2] => { results := [.lit (.bool false)], args := [d1, d2] }
  | _ => none }
def FnHeightsWrongFalsely : Prop := fnHeightsRow.holds Tryz.pinned (OpenSpec.ofChange fnHeightsWrong)

/-- 'laws.FnPairings': WHATEVER THE INPUT: true; the input reads as it did. -/
def fnPairingsSpec : ChangeSpec := { name := "fnPairings", fn := fun _ => fun
  | [d1, d2] => { results := [.lit (.bool true)], args := [d1, d2] }
  | _ => none }
def fnPairingsRow : OpenClaim := { program := "ytggekfbfechonaagreat", sum := "f444db210ee4d35c2946b1557e93d6542cae3c55e2ed32405b62f3bee083375f", func := "loop.example/g01004/laws.FnPairings", spec := "fnPairings", inPlace := ["math.sqrt"], apart := false }
def FnPairingsSaid : Prop := fnPairingsRow.holds Tryz.pinned (OpenSpec.ofChange fnPairingsSpec)

/-- ITS FALSE NEIGHBOUR: 'it returns false'. Refute it at one input. -/
def fnPairingsWrong : ChangeSpec := { name := "fnPairings", fn := fun _ => fun
  | [d1, d2] => { results := [.lit (.bool false)], args := [d1, d2] }
  | _ => none }
def FnPairingsWrongFalsely : Prop := fnPairingsRow.holds Tryz.pinned (OpenSpec.ofChange fnPairingsWrong)

/-- 'laws.FnHeightLaws': WHATEVER THE INPUT: true; the input reads as it did. -/
def fnHeightLawsSpec : ChangeSpec := { name := "fnHeightLaws", fn := fun _ => fun
  | [d1, d2] => { results := [.lit (.bool true)], args := [d1, d2] }
  | _ => none }
def fnHeightLawsRow : OpenClaim := { program := "ytggekfbfechonaagreat", sum := "f444db210ee4d35c2946b1557e93d6542cae3c55e2ed32405b62f3bee083375f", func := "loop.example/g01004/laws.FnHeightLaws", spec := "fnHeightLaws", inPlace := ["math.sqrt"], apart := false }
def FnHeightLawsSaid : Prop := fnHeightLawsRow.holds Tryz.pinned (OpenSpec.ofChange fnHeightLawsSpec)

/-- ITS FALSE NEIGHBOUR: 'it returns false'. Refute it at one input. -/
def fnHeightLawsWrong : ChangeSpec := { name := "fnHeightLaws", fn := fun _ => fun
  | [d1, d2] => { results := [.lit (.bool false)], args := [d1, d2] }
  | _ => none }
def FnHeightLawsWrongFalsely : Prop := fnHeightLawsRow.holds Tryz.pinned (OpenSpec.ofChange fnHeightLawsWrong)

/- THE SECOND FORM. 'bulk': how many values and letters a reading holds, each counted each time it is reached (what is shared counts as often as it is met; a slice's spare places count too). A statement '..UptoSaid' is the law's where the arguments, and the package variables that the reading takes, are together of bulk at most 1048576: NARROWER than '..Said'. Prove '..Said' where nothing that the law and all that it calls make is longer than what came in: it says more and counts as full. Else prove '..UptoSaid'. A law counts once. -/
mutual
def uptoBulk {H : Type} : DataW H → Nat
  | .lit (.string bytes) => bytes.length + 1
  | .lit _ => 1
  | .nil => 1
  | .ptr d => uptoBulk d + 1
  | .slice elems spare => uptoBulkAll elems + uptoBulkAll spare + 1
  | .agg parts => uptoBulkAll parts + 1
  | .iface _ d => uptoBulk d + 1
  | .map entries => uptoBulkEntries entries + 1
  | .held _ => 1
def uptoBulkAll {H : Type} : List (DataW H) → Nat
  | [] => 0
  | d :: r => uptoBulk d + uptoBulkAll r
def uptoBulkEntries {H : Type} : List (Lit × DataW H) → Nat
  | [] => 0
  | x :: r => uptoBulkEntry x + uptoBulkEntries r
def uptoBulkEntry {H : Type} : Lit × DataW H → Nat
  | (.string bytes, d) => bytes.length + uptoBulk d + 1
  | (_, d) => uptoBulk d + 1
 end
def uptoSmall : (H : Type) → List (DataW H) → Bool := fun _ ds => decide (uptoBulkAll ds ≤ 1048576)
def OpenSpec.upto (s : _root_.Go.ChangeSpec) : _root_.Go.OpenSpec := { _root_.Go.OpenSpec.ofChange s with cond := some uptoSmall }

/-- 'laws.FnHeights', WHERE WHAT IT READS IS OF BULK AT MOST 1048576: true; the input reads as it did. -/
def fnHeightsUptoRow : OpenClaim := { program := "ytggekfbfechonaagreat", sum := "f444db210ee4d35c2946b1557e93d6542cae3c55e2ed32405b62f3bee083375f", func := "loop.example/g01004/laws.FnHeights", spec := "fnHeights", inPlace := ["math.sqrt"], apart := false, narrowed := true }
def FnHeightsUptoSaid : Prop := fnHeightsUptoRow.holds Tryz.pinned (OpenSpec.upto fnHeightsSpec)

/-- 'laws.FnPairings', WHERE WHAT IT READS IS OF BULK AT MOST 1048576: true; the input reads as it did. -/
def fnPairingsUptoRow : OpenClaim := { program := "ytggekfbfechonaagreat", sum := "f444db210ee4d35c2946b1557e93d6542cae3c55e2ed32405b62f3bee083375f", func := "loop.example/g01004/laws.FnPairings", spec := "fnPairings", inPlace := ["math.sqrt"], apart := false, narrowed := true }
def FnPairingsUptoSaid : Prop := fnPairingsUptoRow.holds Tryz.pinned (OpenSpec.upto fnPairingsSpec)

/-- 'laws.FnHeightLaws', WHERE WHAT IT READS IS OF BULK AT MOST 1048576: true; the input reads as it did. -/
def fnHeightLawsUptoRow : OpenClaim := { program := "ytggekfbfechonaagreat", sum := "f444db210ee4d35c2946b1557e93d6542cae3c55e2ed32405b62f3bee083375f", func := "loop.example/g01004/laws.FnHeightLaws", spec := "fnHeightLaws", inPlace := ["math.sqrt"], apart := false, narrowed := true }
def FnHeightLawsUptoSaid : Prop := fnHeightLawsUptoRow.holds Tryz.pinned (OpenSpec.upto fnHeightLawsSpec)

end Rows
end Go.Proofs.YtggekfbfechonaaGreat
