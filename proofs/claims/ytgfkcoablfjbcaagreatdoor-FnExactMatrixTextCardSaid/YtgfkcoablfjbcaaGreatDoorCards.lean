/-
  DERIVED. GIVEN WITH THE SEED: THE CARDS: each row of YtgfkcoablfjbcaaGreatDoorRows.lean that lists a variable, with what it lists TIED to the program's text (the seventh form; the later family's looks); each row that meets fmt, with fmt's text TOLD by the authors' own Lean function (tested against real Go, not proved from fmt's source: count such statements apart). THE CARD IS WHAT COUNTS. Prove the row's statement (the work); the ties are given (YtgfkcoablfjbcaaGreatDoorTie.lean); close each card by the builder's one call (the guide's Derived/Test/ToyasCard.lean, 'card_holds'). Laid BY PROGRAM, IN A SANDBOX (cutbox-door.mjs). By AI agents, Wed Nov 11 2026. No macro, syntax, notation, axiom, sorry.
-/
import Derived.Test.YtgfkcoablfjbcaaGreatDoorRows
import GoSem.ClaimSeven
namespace Go.Proofs.YtgfkcoablfjbcaaGreatDoor
namespace Rows

/-- THE TIED CARD OF 'laws.FnExactMatrixText'. -/
def fnExactMatrixTextCard : Claim7 := { stood := { row := fnExactMatrixTextRow, standIns := [], harness := (true, "1bfe502f02a5048c20374016a4aa42405fd93be34aa44bcf50357c7abe2cde60"), looks := false }, kinds := [], alts := [], laidByText := true, laidKinds := [.data, .data, .data], laidTests := true, laidLooks := .later }
def FnExactMatrixTextCardSaid : Prop := Claim7.holds Tryz.pinned (.plain (OpenSpec.ofChange fnExactMatrixTextSpec)) fnExactMatrixTextCard

/-- THE SECOND FORM's CARD OF 'laws.FnExactMatrixText'. -/
def fnExactMatrixTextUptoCard : Claim7 := { stood := { row := fnExactMatrixTextUptoRow, standIns := [], harness := (true, "1bfe502f02a5048c20374016a4aa42405fd93be34aa44bcf50357c7abe2cde60"), looks := false }, kinds := [], alts := [], laidByText := true, laidKinds := [.data, .data, .data], laidTests := true, laidLooks := .later }
def FnExactMatrixTextUptoCardSaid : Prop := Claim7.holds Tryz.pinned (.plain (OpenSpec.upto fnExactMatrixTextSpec)) fnExactMatrixTextUptoCard
end Rows
end Go.Proofs.YtgfkcoablfjbcaaGreatDoor
