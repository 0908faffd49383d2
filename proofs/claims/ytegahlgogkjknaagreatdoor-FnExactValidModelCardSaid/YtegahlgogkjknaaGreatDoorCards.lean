/-
  DERIVED. GIVEN WITH THE SEED: THE CARDS: each row of YtegahlgogkjknaaGreatDoorRows.lean that lists a variable, with what it lists TIED to the program's text (the seventh form; the later family's looks); each row that meets fmt, with fmt's text TOLD by the authors' own Lean function (tested against real Go, not proved from fmt's source: count such statements apart). THE CARD IS WHAT COUNTS. Prove the row's statement (the work); the ties are given (YtegahlgogkjknaaGreatDoorTie.lean); close each card by the builder's one call (the guide's Derived/Test/ToyasCard.lean, 'card_holds'). Laid BY PROGRAM, IN A SANDBOX (cutbox-door.mjs). By AI agents, Wed Nov 11 2026. No macro, syntax, notation, axiom, sorry.
-/
import Derived.Test.YtegahlgogkjknaaGreatDoorRows
import GoSem.ClaimSeven
namespace Go.Proofs.YtegahlgogkjknaaGreatDoor
namespace Rows

/-- THE TIED CARD OF 'laws.FnExactValidModel'. -/
def fnExactValidModelCard : Claim7 := { stood := { row := fnExactValidModelRow, standIns := [], harness := (true, "ede19325599258cb6bcd56dadce577a79f1d52c34fb2af40be8394c7f5534ce6"), looks := true }, kinds := [], alts := [], laidByText := true, laidKinds := [.data, .data, .data, .sentinel, .sentinel], laidTests := true, laidLooks := .later }
def FnExactValidModelCardSaid : Prop := Claim7.holds Tryz.pinned (.plain (OpenSpec.ofChange fnExactValidModelSpec)) fnExactValidModelCard

/-- THE SECOND FORM's CARD OF 'laws.FnExactValidModel'. -/
def fnExactValidModelUptoCard : Claim7 := { stood := { row := fnExactValidModelUptoRow, standIns := [], harness := (true, "ede19325599258cb6bcd56dadce577a79f1d52c34fb2af40be8394c7f5534ce6"), looks := true }, kinds := [], alts := [], laidByText := true, laidKinds := [.data, .data, .data, .sentinel, .sentinel], laidTests := true, laidLooks := .later }
def FnExactValidModelUptoCardSaid : Prop := Claim7.holds Tryz.pinned (.plain (OpenSpec.upto fnExactValidModelSpec)) fnExactValidModelUptoCard
end Rows
end Go.Proofs.YtegahlgogkjknaaGreatDoor
