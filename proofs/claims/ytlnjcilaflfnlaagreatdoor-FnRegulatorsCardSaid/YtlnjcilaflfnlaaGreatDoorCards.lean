/-
  DERIVED. GIVEN WITH THE SEED: THE CARDS: each row of YtlnjcilaflfnlaaGreatDoorRows.lean that lists a variable, with what it lists TIED to the program's text (the seventh form; the later family's looks); each row that meets fmt, with fmt's text TOLD by the authors' own Lean function (tested against real Go, not proved from fmt's source: count such statements apart). THE CARD IS WHAT COUNTS. Prove the row's statement (the work); the ties are given (YtlnjcilaflfnlaaGreatDoorTie.lean); close each card by the builder's one call (the guide's Derived/Test/ToyasCard.lean, 'card_holds'). Laid BY PROGRAM, IN A SANDBOX (cutbox-door.mjs). By AI agents, Wed Nov 11 2026. No macro, syntax, notation, axiom, sorry.
-/
import Derived.Test.YtlnjcilaflfnlaaGreatDoorRows
import GoSem.ClaimSeven
namespace Go.Proofs.YtlnjcilaflfnlaaGreatDoor
namespace Rows

/-- THE TIED CARD OF 'laws.FnRegulators'. -/
def fnRegulatorsCard : Claim7 := { stood := { row := fnRegulatorsRow, standIns := [], harness := (true, "85585b566c3e97ea250692bb7946c4ed5dbd57c54493abb00192aeb7c12a4155"), looks := false }, kinds := [], alts := [], laidByText := true, laidKinds := [.data, .data, .data], laidTests := true, laidLooks := .later }
def FnRegulatorsCardSaid : Prop := Claim7.holds Tryz.pinned (.plain (OpenSpec.ofChange fnRegulatorsSpec)) fnRegulatorsCard

/-- THE SECOND FORM's CARD OF 'laws.FnRegulators'. -/
def fnRegulatorsUptoCard : Claim7 := { stood := { row := fnRegulatorsUptoRow, standIns := [], harness := (true, "85585b566c3e97ea250692bb7946c4ed5dbd57c54493abb00192aeb7c12a4155"), looks := false }, kinds := [], alts := [], laidByText := true, laidKinds := [.data, .data, .data], laidTests := true, laidLooks := .later }
def FnRegulatorsUptoCardSaid : Prop := Claim7.holds Tryz.pinned (.plain (OpenSpec.upto fnRegulatorsSpec)) fnRegulatorsUptoCard
end Rows
end Go.Proofs.YtlnjcilaflfnlaaGreatDoor
