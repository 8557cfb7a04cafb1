/-
  No cell of these rows narrows 'for every input' (looked for: loops, veiled, ifaces, maps, wideKeys, modest, calm, conditions, laid).
  DERIVED. THE GIVEN ROWS OF THIS SEAT. 4 by the template 'for every input the law returns true; each argument reads behind the call as it read before'; 0 by the template 'total and deterministic' (their statements: YthfjndmdalfloaaGreatTotals.lean).
  GIVEN WITH THE SEED: the statements are not yours to turn. If you find one false, say at which input.
  Laid BY PROGRAM, IN A SANDBOX (cutbox-rows.mjs): the forced cells as the released guide's own fill.sh prints them over the translation 775a82f904234010… (all of the seat's roots in one cut). By AI agents, Wed Nov 11 2026. No macro, syntax, notation, axiom, sorry.
-/
import Derived.Test.YthfjndmdalfloaaGreatChecked
import GoSem.Claim
import GoSem.ClaimJoined
import GoSem.ClaimMapViews
import Derived.JoinedTies
import Derived.KernelRfl
namespace Go.Proofs.YthfjndmdalfloaaGreat
/- THE CELL 'sum', in the pinned program and in every row, IS THE sha256 OF THE DUMP (.gsa) THAT YthfjndmdalfloaaGreatProg.lean LOADS. Nothing in Lean hashes anything: it is a label: what it is worth is what the hold of that sum in a sandbox is worth. -/
noncomputable def Tryz.pinned : Pinned := { name := "ythfjndmdalfloaagreat", sum := "775a82f904234010ddf81bd22cd688f561b2cd92aeb7abfbd3e4ae6adb55eaf0", checked := Tryz.checked }
namespace Rows
def none {H : Type} : Left H := { results := [], args := [] }

/-- 'laws.FnExactAreIndependent': WHATEVER THE INPUT: true; the input reads as it did. -/
def fnExactAreIndependentSpec : ChangeSpec := { name := "fnExactAreIndependent", fn := fun _ => fun
  | [d1, d2] => { results := [.lit (.bool true)], args := [d1, d2] }
  | _ => none }
def fnExactAreIndependentRow : OpenClaim := { program := "ythfjndmdalfloaagreat", sum := "775a82f904234010ddf81bd22cd688f561b2cd92aeb7abfbd3e4ae6adb55eaf0", func := "loop.example/g01004/laws.FnExactAreIndependent", spec := "fnExactAreIndependent", inPlace := ["math.sqrt"], unfollowed := true, recurses := true, apart := false }
def FnExactAreIndependentSaid : Prop := fnExactAreIndependentRow.holds Tryz.pinned (OpenSpec.ofChange fnExactAreIndependentSpec)

/-- ITS FALSE NEIGHBOUR: 'it returns false'. Refute it at one input. -/
def fnExactAreIndependentWrong : ChangeSpec := { name := "fnExactAreIndependent", fn := fun _ => fun
  | [d1, d2] => { results := [.lit (.bool false)], args := [d1, d2] }
  | _ => none }
def FnExactAreIndependentWrongFalsely : Prop := fnExactAreIndependentRow.holds Tryz.pinned (OpenSpec.ofChange fnExactAreIndependentWrong)

/-- 'laws.FnExactCombinedHeight': WHATEVER THE INPUT: true; the input reads as it did. -/
def fnExactCombinedHeightSpec : ChangeSpec := { name := "fnExactCombinedHeight", fn := fun _ => fun
  | [d1, d2, d3] => { results := [.lit (.bool true)], args := [d1, d2, d3] }
  | _ => none }
def fnExactCombinedHeightRow : OpenClaim := { program := "ythfjndmdalfloaagreat", sum := "775a82f904234010ddf81bd22cd688f561b2cd92aeb7abfbd3e4ae6adb55eaf0", func := "loop.example/g01004/laws.FnExactCombinedHeight", spec := "fnExactCombinedHeight", inPlace := ["math.sqrt"], unfollowed := true, recurses := true, apart := false }
def FnExactCombinedHeightSaid : Prop := fnExactCombinedHeightRow.holds Tryz.pinned (OpenSpec.ofChange fnExactCombinedHeightSpec)

/-- ITS FALSE NEIGHBOUR: 'it returns false'. Refute it at one input. -/
def fnExactCombinedHeightWrong : ChangeSpec := { name := "fnExactCombinedHeight", fn := fun _ => fun
  | [d1, d2, d3] => { results := [.lit (.bool false)], args := [d1, d2, d3] }
  | _ => none }
def FnExactCombinedHeightWrongFalsely : Prop := fnExactCombinedHeightRow.holds Tryz.pinned (OpenSpec.ofChange fnExactCombinedHeightWrong)

/-- 'laws.FnExactPairingMatrix': WHATEVER THE INPUT: true; the input reads as it did. -/
def fnExactPairingMatrixSpec : ChangeSpec := { name := "fnExactPairingMatrix", fn := fun _ => fun
  | [d1, d2] => { results := [.lit (.bool true)], args := [d1, d2] }
  | _ => none }
def fnExactPairingMatrixRow : OpenClaim := { program := "ythfjndmdalfloaagreat", sum := "775a82f904234010ddf81bd22cd688f561b2cd92aeb7abfbd3e4ae6adb55eaf0", func := "loop.example/g01004/laws.FnExactPairingMatrix", spec := "fnExactPairingMatrix", inPlace := ["math.sqrt"], unfollowed := true, recurses := true, apart := false }
def FnExactPairingMatrixSaid : Prop := fnExactPairingMatrixRow.holds Tryz.pinned (OpenSpec.ofChange fnExactPairingMatrixSpec)

/-- ITS FALSE NEIGHBOUR: 'it returns false'. Refute it at one input. -/
def fnExactPairingMatrixWrong : ChangeSpec := { name := "fnExactPairingMatrix", fn := fun _ => fun
  | [d1, d2] => { results := [.lit (.bool false)], args := [d1, d2] }
  | _ => none }
def FnExactPairingMatrixWrongFalsely : Prop := fnExactPairingMatrixRow.holds Tryz.pinned (OpenSpec.ofChange fnExactPairingMatrixWrong)

/-- 'laws.FnExactRegulatorIn': WHATEVER THE INPUT: true; the input reads as it did. -/
def fnExactRegulatorInSpec : ChangeSpec := { name := "fnExactRegulatorIn", fn := fun _ => fun
  | [d1, d2] => { results := [.lit (.bool true)], args := [d1, d2] }
  | _ => none }
def fnExactRegulatorInRow : OpenClaim := { program := "ythfjndmdalfloaagreat", sum := "775a82f904234010ddf81bd22cd688f561b2cd92aeb7abfbd3e4ae6adb55eaf0", func := "loop.example/g01004/laws.FnExactRegulatorIn", spec := "fnExactRegulatorIn", inPlace := ["math.sqrt"], unfollowed := true, recurses := true, apart := false }
def FnExactRegulatorInSaid : Prop := fnExactRegulatorInRow.holds Tryz.pinned (OpenSpec.ofChange fnExactRegulatorInSpec)

/-- ITS FALSE NEIGHBOUR: 'it returns false'. Refute it at one input. -/
def fnExactRegulatorInWrong : ChangeSpec := { name := "fnExactRegulatorIn", fn := fun _ => fun
  | [d1, d2] => { results := [.lit (.bool false)], args := [d1, d2] }
  | _ => none }
def FnExactRegulatorInWrongFalsely : Prop := fnExactRegulatorInRow.holds Tryz.pinned (OpenSpec.ofChange fnExactRegulatorInWrong)

/- THE SECOND FORM. 'bulk': how many values and letters a reading holds, each counted each time it is reached (what is shared counts as often as it is met; a slice's spare places count too). A statement '..UptoSaid' is the law's where the arguments, and the package variables that the reading takes, are together of bulk at most 1048576: NARROWER than '..Said'. Prove '..Said' where nothing that the law and all that it calls make is longer than what came in: it says more and counts as full. Else prove '..UptoSaid'. A law counts once. -/
mutual
def uptoBulk {H : Type} : DataW H → Nat
  | .lit (.string bytes) => bytes.length + 1
  | .lit _ => 1
  | .nil => 1
  | .ptr d => uptoBulk d + 1
  | .slice elems spare => uptoBulkAll elems + uptoBulkAll spare + 1
  | .agg parts => uptoBulkAll parts + 1
  | .iface _ d => uptoBulk d + 1
  | .map entries => uptoBulkEntries entries + 1
  | .held _ => 1
def uptoBulkAll {H : Type} : List (DataW H) → Nat
  | [] => 0
  | d :: r => uptoBulk d + uptoBulkAll r
def uptoBulkEntries {H : Type} : List (Lit × DataW H) → Nat
  | [] => 0
  | x :: r => uptoBulkEntry x + uptoBulkEntries r
def uptoBulkEntry {H : Type} : Lit × DataW H → Nat
  | (.string bytes, d) => bytes.length + uptoBulk d + 1
  | (_, d) => uptoBulk d + 1
 end
def uptoSmall : (H : Type) → List (DataW H) → Bool := fun _ ds => decide (uptoBulkAll ds ≤ 1048576)
def OpenSpec.upto (s : _root_.Go.ChangeSpec) : _root_.Go.OpenSpec := { _root_.Go.OpenSpec.ofChange s with cond := some uptoSmall }

/-- 'laws.FnExactAreIndependent', WHERE WHAT IT READS IS OF BULK AT MOST 1048576: true; the input reads as it did. -/
def fnExactAreIndependentUptoRow : OpenClaim := { program := "ythfjndmdalfloaagreat", sum := "775a82f904234010ddf81bd22cd688f561b2cd92aeb7abfbd3e4ae6adb55eaf0", func := "loop.example/g01004/laws.FnExactAreIndependent", spec := "fnExactAreIndependent", inPlace := ["math.sqrt"], unfollowed := true, recurses := true, apart := false, narrowed := true }
def FnExactAreIndependentUptoSaid : Prop := fnExactAreIndependentUptoRow.holds Tryz.pinned (OpenSpec.upto fnExactAreIndependentSpec)

/-- 'laws.FnExactCombinedHeight', WHERE WHAT IT READS IS OF BULK AT MOST 1048576: true; the input reads as it did. -/
def fnExactCombinedHeightUptoRow : OpenClaim := { program := "ythfjndmdalfloaagreat", sum := "775a82f904234010ddf81bd22cd688f561b2cd92aeb7abfbd3e4ae6adb55eaf0", func := "loop.example/g01004/laws.FnExactCombinedHeight", spec := "fnExactCombinedHeight", inPlace := ["math.sqrt"], unfollowed := true, recurses := true, apart := false, narrowed := true }
def FnExactCombinedHeightUptoSaid : Prop := fnExactCombinedHeightUptoRow.holds Tryz.pinned (OpenSpec.upto fnExactCombinedHeightSpec)

/-- 'laws.FnExactPairingMatrix', WHERE WHAT IT READS IS OF BULK AT MOST 1048576: true; the input reads as it did. -/
def fnExactPairingMatrixUptoRow : OpenClaim := { program := "ythfjndmdalfloaagreat", sum := "775a82f904234010ddf81bd22cd688f561b2cd92aeb7abfbd3e4ae6adb55eaf0", func := "loop.example/g01004/laws.FnExactPairingMatrix", spec := "fnExactPairingMatrix", inPlace := ["math.sqrt"], unfollowed := true, recurses := true, apart := false, narrowed := true }
def FnExactPairingMatrixUptoSaid : Prop := fnExactPairingMatrixUptoRow.holds Tryz.pinned (OpenSpec.upto fnExactPairingMatrixSpec)

/-- 'laws.FnExactRegulatorIn', WHERE WHAT IT READS IS OF BULK AT MOST 1048576: true; the input reads as it did. -/
def fnExactRegulatorInUptoRow : OpenClaim := { program := "ythfjndmdalfloaagreat", sum := "775a82f904234010ddf81bd22cd688f561b2cd92aeb7abfbd3e4ae6adb55eaf0", func := "loop.example/g01004/laws.FnExactRegulatorIn", spec := "fnExactRegulatorIn", inPlace := ["math.sqrt"], unfollowed := true, recurses := true, apart := false, narrowed := true }
def FnExactRegulatorInUptoSaid : Prop := fnExactRegulatorInUptoRow.holds Tryz.pinned (OpenSpec.upto fnExactRegulatorInSpec)

end Rows
end Go.Proofs.YthfjndmdalfloaaGreat
