/-
  No cell of these rows narrows 'for every input' (looked for: loops, veiled, ifaces, maps, wideKeys, modest, calm, conditions, laid).
  DERIVED. THE GIVEN ROWS OF THIS SEAT. 4 by the template 'for every input the law returns true; each argument reads behind the call as it read before'; 0 by the template 'total and deterministic' (their statements: YtpemckpnlemkfaaTotals.lean).
  GIVEN WITH THE SEED: the statements are not yours to turn. If you find one false, say at which input.
  Laid BY PROGRAM, IN A SANDBOX (cutbox-rows.mjs): the forced cells as the released guide's own fill.sh prints them over the translation f776358bb29c3eda… (all of the seat's roots in one cut). By AI agents, Wed Nov 11 2026. No macro, syntax, notation, axiom, sorry.
-/
import Derived.Test.YtpemckpnlemkfaaChecked
import GoSem.Claim
import GoSem.ClaimJoined
import GoSem.ClaimMapViews
import Derived.JoinedTies
import Derived.KernelRfl
namespace Go.Proofs.Ytpemckpnlemkfaa
/- THE CELL 'sum', in the pinned program and in every row, IS THE sha256 OF THE DUMP (.gsa) THAT YtpemckpnlemkfaaProg.lean LOADS. Nothing in Lean hashes anything: it is a label: what it is worth is what the hold of that sum in a sandbox is worth. -/
noncomputable def Try.pinned : Pinned := { name := "ytpemckpnlemkfaa", sum := "f776358bb29c3edaa90d2fcd0f520168ede800c744865f33e7a377095dbd4a2c", checked := Try.checked }
namespace Rows
def none {H : Type} : Left H := { results := [], args := [] }

/-- 'laws.FnExactSameForms': WHATEVER THE INPUT: true; the input reads as it did. -/
def fnExactSameFormsSpec : ChangeSpec := { name := "fnExactSameForms", fn := fun _ => fun
  | [d] => { results := [.lit (.bool true)], args := [d] }
  | _ => none }
def fnExactSameFormsRow : OpenClaim := { program := "ytpemckpnlemkfaa", sum := "f776358bb29c3edaa90d2fcd0f520168ede800c744865f33e7a377095dbd4a2c", func := "loop.example/g01004/laws.FnExactSameForms", spec := "fnExactSameForms", unfollowed := true, recurses := true, apart := false }
def FnExactSameFormsSaid : Prop := fnExactSameFormsRow.holds Try.pinned (OpenSpec.ofChange fnExactSameFormsSpec)

/-- ITS FALSE NEIGHBOUR: 'it returns false'. Refute it at one input. -/
def fnExactSameFormsWrong : ChangeSpec := { name := "fnExactSameForms", fn := fun _ => fun
  | [d] => { results := [.lit (.bool false)], args := [d] }
  | _ => none }
def FnExactSameFormsWrongFalsely : Prop := fnExactSameFormsRow.holds Try.pinned (OpenSpec.ofChange fnExactSameFormsWrong)

/-- 'laws.FnExactCarryPoint': WHATEVER THE INPUT: true; the input reads as it did. -/
def fnExactCarryPointSpec : ChangeSpec := { name := "fnExactCarryPoint", fn := fun _ => fun
  | [d1, d2, d3, d4] => { results := [.lit (.bool true)], args := [d1, d2, d3, d4] }
  | _ => none }
def fnExactCarryPointRow : OpenClaim := { program := "ytpemckpnlemkfaa", sum := "f776358bb29c3edaa90d2fcd0f520168ede800c744865f33e7a377095dbd4a2c", func := "loop.example/g01004/laws.FnExactCarryPoint", spec := "fnExactCarryPoint", apart := false }
def FnExactCarryPointSaid : Prop := fnExactCarryPointRow.holds Try.pinned (OpenSpec.ofChange fnExactCarryPointSpec)

/-- ITS FALSE NEIGHBOUR: 'it returns false'. Refute it at one input. -/
def fnExactCarryPointWrong : ChangeSpec := { name := "fnExactCarryPoint", fn := fun _ => fun
  | [d1, d2, d3, d4] => { results := [.lit (.bool false)], args := [d1, d2, d3, d4] }
  | _ => none }
def FnExactCarryPointWrongFalsely : Prop := fnExactCarryPointRow.holds Try.pinned (OpenSpec.ofChange fnExactCarryPointWrong)

/-- 'laws.FnExactTwistBetween': WHATEVER THE INPUT: true; the input reads as it did. -/
def fnExactTwistBetweenSpec : ChangeSpec := { name := "fnExactTwistBetween", fn := fun _ => fun
  | [d1, d2] => { results := [.lit (.bool true)], args := [d1, d2] }
  | _ => none }
def fnExactTwistBetweenRow : OpenClaim := { program := "ytpemckpnlemkfaa", sum := "f776358bb29c3edaa90d2fcd0f520168ede800c744865f33e7a377095dbd4a2c", func := "loop.example/g01004/laws.FnExactTwistBetween", spec := "fnExactTwistBetween", unfollowed := true, recurses := true, apart := false }
def FnExactTwistBetweenSaid : Prop := fnExactTwistBetweenRow.holds Try.pinned (OpenSpec.ofChange fnExactTwistBetweenSpec)

/-- ITS FALSE NEIGHBOUR: 'it returns false'. Refute it at one input. -/
def fnExactTwistBetweenWrong : ChangeSpec := { name := "fnExactTwistBetween", fn := fun _ => fun
  | [d1, d2] => { results := [.lit (.bool false)], args := [d1, d2] }
  | _ => none }
def FnExactTwistBetweenWrongFalsely : Prop := fnExactTwistBetweenRow.holds Try.pinned (OpenSpec.ofChange fnExactTwistBetweenWrong)

/-- 'laws.FnExactLeastTwist': WHATEVER THE INPUT: true; the input reads as it did. -/
def fnExactLeastTwistSpec : ChangeSpec := { name := "fnExactLeastTwist", fn := fun _ => fun
  | [d] => { results := [.lit (.bool true)], args := [d] }
  | _ => none }
def fnExactLeastTwistRow : OpenClaim := { program := "ytpemckpnlemkfaa", sum := "f776358bb29c3edaa90d2fcd0f520168ede800c744865f33e7a377095dbd4a2c", func := "loop.example/g01004/laws.FnExactLeastTwist", spec := "fnExactLeastTwist", unfollowed := true, recurses := true, apart := false }
def FnExactLeastTwistSaid : Prop := fnExactLeastTwistRow.holds Try.pinned (OpenSpec.ofChange fnExactLeastTwistSpec)

/-- ITS FALSE NEIGHBOUR: 'it returns false'. Refute it at one input. -/
def fnExactLeastTwistWrong : ChangeSpec := { name := "fnExactLeastTwist", fn := fun _ => fun
  | [d] => { results := [.lit (.bool false)], args := [d] }
  | _ => none }
def FnExactLeastTwistWrongFalsely : Prop := fnExactLeastTwistRow.holds Try.pinned (OpenSpec.ofChange fnExactLeastTwistWrong)

/- THE SECOND FORM. 'bulk': how many values and letters a reading holds, each counted each time it is reached (what is shared counts as often as it is met; a slice's spare places count too). A statement '..UptoSaid' is the law's where the arguments, and the package variables that the reading takes, are together of bulk at most 1048576: NARROWER than '..Said'. Prove '..Said' where nothing that the law and all that it calls make is longer than what came in: it says more and counts as full. Else prove '..UptoSaid'. A law counts once. -/
mutual
def uptoBulk {H : Type} : DataW H → Nat
  | .lit (.string bytes) => bytes.length + 1
  | .lit _ => 1
  | .nil => 1
  | .ptr d => uptoBulk d + 1
  | .slice elems spare => uptoBulkAll elems + uptoBulkAll spare + 1
  | .agg parts => uptoBulkAll parts + 1
  | .iface _ d => uptoBulk d + 1
  | .map entries => uptoBulkEntries entries + 1
  | .held _ => 1
def uptoBulkAll {H : Type} : List (DataW H) → Nat
  | [] => 0
  | d :: r => uptoBulk d + uptoBulkAll r
def uptoBulkEntries {H : Type} : List (Lit × DataW H) → Nat
  | [] => 0
  | x :: r => uptoBulkEntry x + uptoBulkEntries r
def uptoBulkEntry {H : Type} : Lit × DataW H → Nat
  | (.string bytes, d) => bytes.length + uptoBulk d + 1
  | (_, d) => uptoBulk d + 1
 end
def uptoSmall : (H : Type) → List (DataW H) → Bool := fun _ ds => decide (uptoBulkAll ds ≤ 1048576)
def OpenSpec.upto (s : _root_.Go.ChangeSpec) : _root_.Go.OpenSpec := { _root_.Go.OpenSpec.ofChange s with cond := some uptoSmall }

/-- 'laws.FnExactSameForms', WHERE WHAT IT READS IS OF BULK AT MOST 1048576: true; the input reads as it did. -/
def fnExactSameFormsUptoRow : OpenClaim := { program := "ytpemckpnlemkfaa", sum := "f776358bb29c3edaa90d2fcd0f520168ede800c744865f33e7a377095dbd4a2c", func := "loop.example/g01004/laws.FnExactSameForms", spec := "fnExactSameForms", unfollowed := true, recurses := true, apart := false, narrowed := true }
def FnExactSameFormsUptoSaid : Prop := fnExactSameFormsUptoRow.holds Try.pinned (OpenSpec.upto fnExactSameFormsSpec)

/-- 'laws.FnExactCarryPoint', WHERE WHAT IT READS IS OF BULK AT MOST 1048576: true; the input reads as it did. -/
def fnExactCarryPointUptoRow : OpenClaim := { program := "ytpemckpnlemkfaa", sum := "f776358bb29c3edaa90d2fcd0f520168ede800c744865f33e7a377095dbd4a2c", func := "loop.example/g01004/laws.FnExactCarryPoint", spec := "fnExactCarryPoint", apart := false, narrowed := true }
def FnExactCarryPointUptoSaid : Prop := fnExactCarryPointUptoRow.holds Try.pinned (OpenSpec.upto fnExactCarryPointSpec)

/-- 'laws.FnExactTwistBetween', WHERE WHAT IT READS IS OF BULK AT MOST 1048576: true; the input reads as it did. -/
def fnExactTwistBetweenUptoRow : OpenClaim := { program := "ytpemckpnlemkfaa", sum := "f776358bb29c3edaa90d2fcd0f520168ede800c744865f33e7a377095dbd4a2c", func := "loop.example/g01004/laws.FnExactTwistBetween", spec := "fnExactTwistBetween", unfollowed := true, recurses := true, apart := false, narrowed := true }
def FnExactTwistBetweenUptoSaid : Prop := fnExactTwistBetweenUptoRow.holds Try.pinned (OpenSpec.upto fnExactTwistBetweenSpec)

/-- 'laws.FnExactLeastTwist', WHERE WHAT IT READS IS OF BULK AT MOST 1048576: true; the input reads as it did. -/
def fnExactLeastTwistUptoRow : OpenClaim := { program := "ytpemckpnlemkfaa", sum := "f776358bb29c3edaa90d2fcd0f520168ede800c744865f33e7a377095dbd4a2c", func := "loop.example/g01004/laws.FnExactLeastTwist", spec := "fnExactLeastTwist", unfollowed := true, recurses := true, apart := false, narrowed := true }
def FnExactLeastTwistUptoSaid : Prop := fnExactLeastTwistUptoRow.holds Try.pinned (OpenSpec.upto fnExactLeastTwistSpec)

end Rows
end Go.Proofs.Ytpemckpnlemkfaa
