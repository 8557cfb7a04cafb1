/-
  No cell of these rows narrows 'for every input' (looked for: loops, veiled, ifaces, maps, wideKeys, modest, calm, conditions, laid).
  DERIVED. THE GIVEN ROWS OF THIS SEAT. 5 by the template 'for every input the law returns true; each argument reads behind the call as it read before'; 0 by the template 'total and deterministic' (their statements: YtgfkcoablfjbcaaGreatTotals.lean).
  GIVEN WITH THE SEED: the statements are not yours to turn. If you find one false, say at which input.
  Laid BY PROGRAM, IN A SANDBOX (cutbox-rows.mjs): the forced cells as the released guide's own fill.sh prints them over the translation 3f917fea4c13b114… (all of the seat's roots in one cut). By AI agents, Wed Nov 11 2026. No macro, syntax, notation, axiom, sorry.
-/
import Derived.Test.YtgfkcoablfjbcaaGreatChecked
import GoSem.Claim
import GoSem.ClaimJoined
import GoSem.ClaimMapViews
import Derived.JoinedTies
import Derived.KernelRfl
namespace Go.Proofs.YtgfkcoablfjbcaaGreat
/- THE CELL 'sum', in the pinned program and in every row, IS THE sha256 OF THE DUMP (.gsa) THAT YtgfkcoablfjbcaaGreatProg.lean LOADS. Nothing in Lean hashes anything: it is a label: what it is worth is what the hold of that sum in a sandbox is worth. -/
noncomputable def Tryz.pinned : Pinned := { name := "ytgfkcoablfjbcaagreat", sum := "3f917fea4c13b114de15a8b57b5c4fb30e3cdbec050adf81b8fc66e79cfac170", checked := Tryz.checked }
namespace Rows
def none {H : Type} : Left H := { results := [], args := [] }

/-- 'laws.FnExactKeepIndependent': WHATEVER THE INPUT: true; the input reads as it did. -/
def fnExactKeepIndependentSpec : ChangeSpec := { name := "fnExactKeepIndependent", fn := fun _ => fun
  | [d1, d2] => { results := [.lit (.bool true)], args := [d1, d2] }
  | _ => none }
def fnExactKeepIndependentRow : OpenClaim := { program := "ytgfkcoablfjbcaagreat", sum := "3f917fea4c13b114de15a8b57b5c4fb30e3cdbec050adf81b8fc66e79cfac170", func := "loop.example/g01004/laws.FnExactKeepIndependent", spec := "fnExactKeepIndependent", inPlace := ["math.sqrt"], unfollowed := true, recurses := true, apart := false }
def FnExactKeepIndependentSaid : Prop := fnExactKeepIndependentRow.holds Tryz.pinned (OpenSpec.ofChange fnExactKeepIndependentSpec)

/-- ITS FALSE NEIGHBOUR: 'it returns false'. Refute it at one input. -/
def fnExactKeepIndependentWrong : ChangeSpec := { name := "fnExactKeepIndependent", fn := fun _ => fun
  | [d1, d2] => { results := [.lit (.bool false)], args := [d1, d2] }
  | _ => none }
def FnExactKeepIndependentWrongFalsely : Prop := fnExactKeepIndependentRow.holds Tryz.pinned (OpenSpec.ofChange fnExactKeepIndependentWrong)

/-- 'laws.FnExactCheckCertificate': WHATEVER THE INPUT: true; the input reads as it did. -/
def fnExactCheckCertificateSpec : ChangeSpec := { name := "fnExactCheckCertificate", fn := fun _ => fun
  | [d] => { results := [.lit (.bool true)], args := [d] }
  | _ => none }
def fnExactCheckCertificateRow : OpenClaim := { program := "ytgfkcoablfjbcaagreat", sum := "3f917fea4c13b114de15a8b57b5c4fb30e3cdbec050adf81b8fc66e79cfac170", func := "loop.example/g01004/laws.FnExactCheckCertificate", spec := "fnExactCheckCertificate", inPlace := ["math.sqrt"], unfollowed := true, recurses := true, apart := false }
def FnExactCheckCertificateSaid : Prop := fnExactCheckCertificateRow.holds Tryz.pinned (OpenSpec.ofChange fnExactCheckCertificateSpec)

/-- ITS FALSE NEIGHBOUR: 'it returns false'. Refute it at one input. -/
def fnExactCheckCertificateWrong : ChangeSpec := { name := "fnExactCheckCertificate", fn := fun _ => fun
  | [d] => { results := [.lit (.bool false)], args := [d] }
  | _ => none }
def FnExactCheckCertificateWrongFalsely : Prop := fnExactCheckCertificateRow.holds Tryz.pinned (OpenSpec.ofChange fnExactCheckCertificateWrong)

/-- 'laws.FnExactMakeCertificate': WHATEVER THE INPUT: true; the input reads as it did. -/
def fnExactMakeCertificateSpec : ChangeSpec := { name := "fnExactMakeCertificate", fn := fun _ => fun
  | [d1, d2] => { results := [.lit (.bool true)], args := [d1, d2] }
  | _ => none }
def fnExactMakeCertificateRow : OpenClaim := { program := "ytgfkcoablfjbcaagreat", sum := "3f917fea4c13b114de15a8b57b5c4fb30e3cdbec050adf81b8fc66e79cfac170", func := "loop.example/g01004/laws.FnExactMakeCertificate", spec := "fnExactMakeCertificate", inPlace := ["math.sqrt"], unfollowed := true, recurses := true, apart := false }
def FnExactMakeCertificateSaid : Prop := fnExactMakeCertificateRow.holds Tryz.pinned (OpenSpec.ofChange fnExactMakeCertificateSpec)

/-- ITS FALSE NEIGHBOUR: 'it returns false'. Refute it at one input. -/
def fnExactMakeCertificateWrong : ChangeSpec := { name := "fnExactMakeCertificate", fn := fun _ => fun
  | [d1, d2] => { results := [.lit (.bool false)], args := [d1, d2] }
  | _ => none }
def FnExactMakeCertificateWrongFalsely : Prop := fnExactMakeCertificateRow.holds Tryz.pinned (OpenSpec.ofChange fnExactMakeCertificateWrong)

/-- 'laws.FnExactExtendCertificate': WHATEVER THE INPUT: true; the input reads as it did. -/
def fnExactExtendCertificateSpec : ChangeSpec := { name := "fnExactExtendCertificate", fn := fun _ => fun
  | [d1, d2] => { results := [.lit (.bool true)], args := [d1, d2] }
  | _ => none }
def fnExactExtendCertificateRow : OpenClaim := { program := "ytgfkcoablfjbcaagreat", sum := "3f917fea4c13b114de15a8b57b5c4fb30e3cdbec050adf81b8fc66e79cfac170", func := "loop.example/g01004/laws.FnExactExtendCertificate", spec := "fnExactExtendCertificate", inPlace := ["math.sqrt"], unfollowed := true, recurses := true, apart := false }
def FnExactExtendCertificateSaid : Prop := fnExactExtendCertificateRow.holds Tryz.pinned (OpenSpec.ofChange fnExactExtendCertificateSpec)

/-- ITS FALSE NEIGHBOUR: 'it returns false'. Refute it at one input. -/
def fnExactExtendCertificateWrong : ChangeSpec := { name := "fnExactExtendCertificate", fn := fun _ => fun
  | [d1, d2] => { results := [.lit (.bool false)], args := [d1, d2] }
  | _ => none }
def FnExactExtendCertificateWrongFalsely : Prop := fnExactExtendCertificateRow.holds Tryz.pinned (OpenSpec.ofChange fnExactExtendCertificateWrong)

/-- 'laws.FnExactShortenCertificate': WHATEVER THE INPUT: true; the input reads as it did. -/
def fnExactShortenCertificateSpec : ChangeSpec := { name := "fnExactShortenCertificate", fn := fun _ => fun
  | [d1, d2] => { results := [.lit (.bool true)], args := [d1, d2] }
  | _ => none }
def fnExactShortenCertificateRow : OpenClaim := { program := "ytgfkcoablfjbcaagreat", sum := "3f917fea4c13b114de15a8b57b5c4fb30e3cdbec050adf81b8fc66e79cfac170", func := "loop.example/g01004/laws.FnExactShortenCertificate", spec := "fnExactShortenCertificate", inPlace := ["math.sqrt"], unfollowed := true, recurses := true, apart := false }
def FnExactShortenCertificateSaid : Prop := fnExactShortenCertificateRow.holds Tryz.pinned (OpenSpec.ofChange fnExactShortenCertificateSpec)

/-- ITS FALSE NEIGHBOUR: 'it returns false'. Refute it at one input. -/
def fnExactShortenCertificateWrong : ChangeSpec := { name := "fnExactShortenCertificate", fn := fun _ => fun
  | [d1, d2] => { results := [.lit (.bool false)], args := [d1, d2] }
  | _ => none }
def FnExactShortenCertificateWrongFalsely : Prop := fnExactShortenCertificateRow.holds Tryz.pinned (OpenSpec.ofChange fnExactShortenCertificateWrong)

/- THE SECOND FORM. 'bulk': how many values and letters a reading holds, each counted each time it is reached (what is shared counts as often as it is met; a slice's spare places count too). A statement '..UptoSaid' is the law's where the arguments, and the package variables that the reading takes, are together of bulk at most 1048576: NARROWER than '..Said'. Prove '..Said' where nothing that the law and all that it calls make is longer than what came in: it says more and counts as full. Else prove '..UptoSaid'. A law counts once. -/
mutual
def uptoBulk {H : Type} : DataW H → Nat
  | .lit (.string bytes) => bytes.length + 1
  | .lit _ => 1
  | .nil => 1
  | .ptr d => uptoBulk d + 1
  | .slice elems spare => uptoBulkAll elems + uptoBulkAll spare + 1
  | .agg parts => uptoBulkAll parts + 1
  | .iface _ d => uptoBulk d + 1
  | .map entries => uptoBulkEntries entries + 1
  | .held _ => 1
def uptoBulkAll {H : Type} : List (DataW H) → Nat
  | [] => 0
  | d :: r => uptoBulk d + uptoBulkAll r
def uptoBulkEntries {H : Type} : List (Lit × DataW H) → Nat
  | [] => 0
  | x :: r => uptoBulkEntry x + uptoBulkEntries r
def uptoBulkEntry {H : Type} : Lit × DataW H → Nat
  | (.string bytes, d) => bytes.length + uptoBulk d + 1
  | (_, d) => uptoBulk d + 1
 end
def uptoSmall : (H : Type) → List (DataW H) → Bool := fun _ ds => decide (uptoBulkAll ds ≤ 1048576)
def OpenSpec.upto (s : _root_.Go.ChangeSpec) : _root_.Go.OpenSpec := { _root_.Go.OpenSpec.ofChange s with cond := some uptoSmall }

/-- 'laws.FnExactKeepIndependent', WHERE WHAT IT READS IS OF BULK AT MOST 1048576: true; the input reads as it did. -/
def fnExactKeepIndependentUptoRow : OpenClaim := { program := "ytgfkcoablfjbcaagreat", sum := "3f917fea4c13b114de15a8b57b5c4fb30e3cdbec050adf81b8fc66e79cfac170", func := "loop.example/g01004/laws.FnExactKeepIndependent", spec := "fnExactKeepIndependent", inPlace := ["math.sqrt"], unfollowed := true, recurses := true, apart := false, narrowed := true }
def FnExactKeepIndependentUptoSaid : Prop := fnExactKeepIndependentUptoRow.holds Tryz.pinned (OpenSpec.upto fnExactKeepIndependentSpec)

/-- 'laws.FnExactCheckCertificate', WHERE WHAT IT READS IS OF BULK AT MOST 1048576: true; the input reads as it did. -/
def fnExactCheckCertificateUptoRow : OpenClaim := { program := "ytgfkcoablfjbcaagreat", sum := "3f917fea4c13b114de15a8b57b5c4fb30e3cdbec050adf81b8fc66e79cfac170", func := "loop.example/g01004/laws.FnExactCheckCertificate", spec := "fnExactCheckCertificate", inPlace := ["math.sqrt"], unfollowed := true, recurses := true, apart := false, narrowed := true }
def FnExactCheckCertificateUptoSaid : Prop := fnExactCheckCertificateUptoRow.holds Tryz.pinned (OpenSpec.upto fnExactCheckCertificateSpec)

/-- 'laws.FnExactMakeCertificate', WHERE WHAT IT READS IS OF BULK AT MOST 1048576: true; the input reads as it did. -/
def fnExactMakeCertificateUptoRow : OpenClaim := { program := "ytgfkcoablfjbcaagreat", sum := "3f917fea4c13b114de15a8b57b5c4fb30e3cdbec050adf81b8fc66e79cfac170", func := "loop.example/g01004/laws.FnExactMakeCertificate", spec := "fnExactMakeCertificate", inPlace := ["math.sqrt"], unfollowed := true, recurses := true, apart := false, narrowed := true }
def FnExactMakeCertificateUptoSaid : Prop := fnExactMakeCertificateUptoRow.holds Tryz.pinned (OpenSpec.upto fnExactMakeCertificateSpec)

/-- 'laws.FnExactExtendCertificate', WHERE WHAT IT READS IS OF BULK AT MOST 1048576: true; the input reads as it did. -/
def fnExactExtendCertificateUptoRow : OpenClaim := { program := "ytgfkcoablfjbcaagreat", sum := "3f917fea4c13b114de15a8b57b5c4fb30e3cdbec050adf81b8fc66e79cfac170", func := "loop.example/g01004/laws.FnExactExtendCertificate", spec := "fnExactExtendCertificate", inPlace := ["math.sqrt"], unfollowed := true, recurses := true, apart := false, narrowed := true }
def FnExactExtendCertificateUptoSaid : Prop := fnExactExtendCertificateUptoRow.holds Tryz.pinned (OpenSpec.upto fnExactExtendCertificateSpec)

/-- 'laws.FnExactShortenCertificate', WHERE WHAT IT READS IS OF BULK AT MOST 1048576: true; the input reads as it did. -/
def fnExactShortenCertificateUptoRow : OpenClaim := { program := "ytgfkcoablfjbcaagreat", sum := "3f917fea4c13b114de15a8b57b5c4fb30e3cdbec050adf81b8fc66e79cfac170", func := "loop.example/g01004/laws.FnExactShortenCertificate", spec := "fnExactShortenCertificate", inPlace := ["math.sqrt"], unfollowed := true, recurses := true, apart := false, narrowed := true }
def FnExactShortenCertificateUptoSaid : Prop := fnExactShortenCertificateUptoRow.holds Tryz.pinned (OpenSpec.upto fnExactShortenCertificateSpec)

end Rows
end Go.Proofs.YtgfkcoablfjbcaaGreat
