/-
  DERIVED. GIVEN WITH THE SEED: THE CARDS: each row of YtjilbkkappobpaaGreatDoorRows.lean that lists a variable, with what it lists TIED to the program's text (the seventh form; the later family's looks); each row that meets fmt, with fmt's text TOLD by the authors' own Lean function (tested against real Go, not proved from fmt's source: count such statements apart). THE CARD IS WHAT COUNTS. Prove the row's statement (the work); the ties are given (YtjilbkkappobpaaGreatDoorTie.lean); close each card by the builder's one call (the guide's Derived/Test/ToyasCard.lean, 'card_holds'). Laid BY PROGRAM, IN A SANDBOX (cutbox-door.mjs). By AI agents, Wed Nov 11 2026. No macro, syntax, notation, axiom, sorry.
-/
import Derived.Test.YtjilbkkappobpaaGreatDoorRows
import GoSem.ClaimSeven
namespace Go.Proofs.YtjilbkkappobpaaGreatDoor
namespace Rows

/-- THE TIED CARD OF 'laws.FnExactValueAt'. -/
def fnExactValueAtCard : Claim7 := { stood := { row := fnExactValueAtRow, standIns := [], harness := (true, "e35944c09ede2873d57f41dafa9e52dd52a20a77c22eb2332e45e2994677ac4b"), looks := true }, kinds := [], alts := [], laidByText := true, laidKinds := [.data, .data, .data, .sentinel, .sentinel], laidTests := true, laidLooks := .later }
def FnExactValueAtCardSaid : Prop := Claim7.holds Tryz.pinned (.plain (OpenSpec.ofChange fnExactValueAtSpec)) fnExactValueAtCard

/-- THE TIED CARD OF 'laws.FnExactComposeSeries'. -/
def fnExactComposeSeriesCard : Claim7 := { stood := { row := fnExactComposeSeriesRow, standIns := [], harness := (true, "e35944c09ede2873d57f41dafa9e52dd52a20a77c22eb2332e45e2994677ac4b"), looks := true }, kinds := [], alts := [], laidByText := true, laidKinds := [.data, .data, .data, .sentinel, .sentinel], laidTests := true, laidLooks := .later }
def FnExactComposeSeriesCardSaid : Prop := Claim7.holds Tryz.pinned (.plain (OpenSpec.ofChange fnExactComposeSeriesSpec)) fnExactComposeSeriesCard

/-- THE TIED CARD OF 'laws.FnExactBusyTerm'. -/
def fnExactBusyTermCard : Claim7 := { stood := { row := fnExactBusyTermRow, standIns := [], harness := (true, "e35944c09ede2873d57f41dafa9e52dd52a20a77c22eb2332e45e2994677ac4b"), looks := true }, kinds := [], alts := [], laidByText := true, laidKinds := [.data, .data, .data, .sentinel, .sentinel], laidTests := true, laidLooks := .later }
def FnExactBusyTermCardSaid : Prop := Claim7.holds Tryz.pinned (.plain (OpenSpec.ofChange fnExactBusyTermSpec)) fnExactBusyTermCard

/-- THE TIED CARD OF 'laws.FnExactBusySeries'. -/
def fnExactBusySeriesCard : Claim7 := { stood := { row := fnExactBusySeriesRow, standIns := [], harness := (true, "e35944c09ede2873d57f41dafa9e52dd52a20a77c22eb2332e45e2994677ac4b"), looks := true }, kinds := [], alts := [], laidByText := true, laidKinds := [.data, .data, .data, .sentinel, .sentinel], laidTests := true, laidLooks := .later }
def FnExactBusySeriesCardSaid : Prop := Claim7.holds Tryz.pinned (.plain (OpenSpec.ofChange fnExactBusySeriesSpec)) fnExactBusySeriesCard

/-- THE TIED CARD OF 'laws.FnExactLengthSeries'. -/
def fnExactLengthSeriesCard : Claim7 := { stood := { row := fnExactLengthSeriesRow, standIns := [], harness := (true, "e35944c09ede2873d57f41dafa9e52dd52a20a77c22eb2332e45e2994677ac4b"), looks := true }, kinds := [], alts := [], laidByText := true, laidKinds := [.data, .data, .data, .sentinel, .sentinel], laidTests := true, laidLooks := .later }
def FnExactLengthSeriesCardSaid : Prop := Claim7.holds Tryz.pinned (.plain (OpenSpec.ofChange fnExactLengthSeriesSpec)) fnExactLengthSeriesCard

/-- THE SECOND FORM's CARD OF 'laws.FnExactValueAt'. -/
def fnExactValueAtUptoCard : Claim7 := { stood := { row := fnExactValueAtUptoRow, standIns := [], harness := (true, "e35944c09ede2873d57f41dafa9e52dd52a20a77c22eb2332e45e2994677ac4b"), looks := true }, kinds := [], alts := [], laidByText := true, laidKinds := [.data, .data, .data, .sentinel, .sentinel], laidTests := true, laidLooks := .later }
def FnExactValueAtUptoCardSaid : Prop := Claim7.holds Tryz.pinned (.plain (OpenSpec.upto fnExactValueAtSpec)) fnExactValueAtUptoCard

/-- THE SECOND FORM's CARD OF 'laws.FnExactComposeSeries'. -/
def fnExactComposeSeriesUptoCard : Claim7 := { stood := { row := fnExactComposeSeriesUptoRow, standIns := [], harness := (true, "e35944c09ede2873d57f41dafa9e52dd52a20a77c22eb2332e45e2994677ac4b"), looks := true }, kinds := [], alts := [], laidByText := true, laidKinds := [.data, .data, .data, .sentinel, .sentinel], laidTests := true, laidLooks := .later }
def FnExactComposeSeriesUptoCardSaid : Prop := Claim7.holds Tryz.pinned (.plain (OpenSpec.upto fnExactComposeSeriesSpec)) fnExactComposeSeriesUptoCard

/-- THE SECOND FORM's CARD OF 'laws.FnExactBusyTerm'. -/
def fnExactBusyTermUptoCard : Claim7 := { stood := { row := fnExactBusyTermUptoRow, standIns := [], harness := (true, "e35944c09ede2873d57f41dafa9e52dd52a20a77c22eb2332e45e2994677ac4b"), looks := true }, kinds := [], alts := [], laidByText := true, laidKinds := [.data, .data, .data, .sentinel, .sentinel], laidTests := true, laidLooks := .later }
def FnExactBusyTermUptoCardSaid : Prop := Claim7.holds Tryz.pinned (.plain (OpenSpec.upto fnExactBusyTermSpec)) fnExactBusyTermUptoCard

/-- THE SECOND FORM's CARD OF 'laws.FnExactBusySeries'. -/
def fnExactBusySeriesUptoCard : Claim7 := { stood := { row := fnExactBusySeriesUptoRow, standIns := [], harness := (true, "e35944c09ede2873d57f41dafa9e52dd52a20a77c22eb2332e45e2994677ac4b"), looks := true }, kinds := [], alts := [], laidByText := true, laidKinds := [.data, .data, .data, .sentinel, .sentinel], laidTests := true, laidLooks := .later }
def FnExactBusySeriesUptoCardSaid : Prop := Claim7.holds Tryz.pinned (.plain (OpenSpec.upto fnExactBusySeriesSpec)) fnExactBusySeriesUptoCard

/-- THE SECOND FORM's CARD OF 'laws.FnExactLengthSeries'. -/
def fnExactLengthSeriesUptoCard : Claim7 := { stood := { row := fnExactLengthSeriesUptoRow, standIns := [], harness := (true, "e35944c09ede2873d57f41dafa9e52dd52a20a77c22eb2332e45e2994677ac4b"), looks := true }, kinds := [], alts := [], laidByText := true, laidKinds := [.data, .data, .data, .sentinel, .sentinel], laidTests := true, laidLooks := .later }
def FnExactLengthSeriesUptoCardSaid : Prop := Claim7.holds Tryz.pinned (.plain (OpenSpec.upto fnExactLengthSeriesSpec)) fnExactLengthSeriesUptoCard
end Rows
end Go.Proofs.YtjilbkkappobpaaGreatDoor
