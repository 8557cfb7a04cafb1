/-
  DERIVED. GIVEN WITH THE SEED: THE CARDS: each row of YtblegpmidkocaaaDoorRows.lean that lists a variable, with what it lists TIED to the program's text (the seventh form; the later family's looks); each row that meets fmt, with fmt's text TOLD by the authors' own Lean function (tested against real Go, not proved from fmt's source: count such statements apart). THE CARD IS WHAT COUNTS. Prove the row's statement (the work); the ties are given (YtblegpmidkocaaaDoorTie.lean); close each card by the builder's one call (the guide's Derived/Test/ToyasCard.lean, 'card_holds'). Laid BY PROGRAM, IN A SANDBOX (cutbox-door.mjs). By AI agents, Wed Nov 11 2026. No macro, syntax, notation, axiom, sorry.
-/
import Derived.Test.YtblegpmidkocaaaDoorRows
import GoSem.ClaimSeven
namespace Go.Proofs.YtblegpmidkocaaaDoor
namespace Rows

/-- THE TIED CARD OF 'laws.FnExactTracesText'. -/
def fnExactTracesTextCard : Claim7 := { stood := { row := fnExactTracesTextRow, standIns := [], harness := (true, "377df6abb99019b7a7e909e8a8eb11fcc8b5c772d8e854967d507c22346a4185"), looks := false }, kinds := [], alts := [], laidByText := true, laidKinds := [.data, .data, .data], laidTests := true, laidLooks := .later }
def FnExactTracesTextCardSaid : Prop := Claim7.holds Tryd.pinned (.plain (OpenSpec.ofChange fnExactTracesTextSpec)) fnExactTracesTextCard

/-- THE SECOND FORM's CARD OF 'laws.FnExactTracesText'. -/
def fnExactTracesTextUptoCard : Claim7 := { stood := { row := fnExactTracesTextUptoRow, standIns := [], harness := (true, "377df6abb99019b7a7e909e8a8eb11fcc8b5c772d8e854967d507c22346a4185"), looks := false }, kinds := [], alts := [], laidByText := true, laidKinds := [.data, .data, .data], laidTests := true, laidLooks := .later }
def FnExactTracesTextUptoCardSaid : Prop := Claim7.holds Tryd.pinned (.plain (OpenSpec.upto fnExactTracesTextSpec)) fnExactTracesTextUptoCard
end Rows
end Go.Proofs.YtblegpmidkocaaaDoor
