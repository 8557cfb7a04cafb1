/-
  DERIVED. GIVEN WITH THE SEED: THE CARDS: each row of YtodgfechhielaaaGreatDoorRows.lean that lists a variable, with what it lists TIED to the program's text (the seventh form; the later family's looks); each row that meets fmt, with fmt's text TOLD by the authors' own Lean function (tested against real Go, not proved from fmt's source: count such statements apart). THE CARD IS WHAT COUNTS. Prove the row's statement (the work); the ties are given (YtodgfechhielaaaGreatDoorTie.lean); close each card by the builder's one call (the guide's Derived/Test/ToyasCard.lean, 'card_holds'). Laid BY PROGRAM, IN A SANDBOX (cutbox-door.mjs). By AI agents, Wed Nov 11 2026. No macro, syntax, notation, axiom, sorry.
-/
import Derived.Test.YtodgfechhielaaaGreatDoorRows
import GoSem.ClaimSeven
namespace Go.Proofs.YtodgfechhielaaaGreatDoor
namespace Rows

/-- THE TIED CARD OF 'laws.FnTraceTables'. -/
def fnTraceTablesCard : Claim7 := { stood := { row := fnTraceTablesRow, standIns := [], harness := (true, "5e69208b7032afd5c5c4d424f883089b64462e12e38bbe00161ed8de23b08125"), looks := false }, kinds := [], alts := [], laidByText := true, laidKinds := [.data, .data, .data], laidTests := true, laidLooks := .later }
def FnTraceTablesCardSaid : Prop := Claim7.holds Tryz.pinned (.plain (OpenSpec.ofChange fnTraceTablesSpec)) fnTraceTablesCard

/-- THE SECOND FORM's CARD OF 'laws.FnTraceTables'. -/
def fnTraceTablesUptoCard : Claim7 := { stood := { row := fnTraceTablesUptoRow, standIns := [], harness := (true, "5e69208b7032afd5c5c4d424f883089b64462e12e38bbe00161ed8de23b08125"), looks := false }, kinds := [], alts := [], laidByText := true, laidKinds := [.data, .data, .data], laidTests := true, laidLooks := .later }
def FnTraceTablesUptoCardSaid : Prop := Claim7.holds Tryz.pinned (.plain (OpenSpec.upto fnTraceTablesSpec)) fnTraceTablesUptoCard
end Rows
end Go.Proofs.YtodgfechhielaaaGreatDoor
