/-
  DERIVED. GIVEN WITH THE SEED: THE CARDS: each row of YtompacaambjhkaaGreatDoorRows.lean that lists a variable, with what it lists TIED to the program's text (the seventh form; the later family's looks); each row that meets fmt, with fmt's text TOLD by the authors' own Lean function (tested against real Go, not proved from fmt's source: count such statements apart). THE CARD IS WHAT COUNTS. Prove the row's statement (the work); the ties are given (YtompacaambjhkaaGreatDoorTie.lean); close each card by the builder's one call (the guide's Derived/Test/ToyasCard.lean, 'card_holds'). Laid BY PROGRAM, IN A SANDBOX (cutbox-door.mjs). By AI agents, Wed Nov 11 2026. No macro, syntax, notation, axiom, sorry.
-/
import Derived.Test.YtompacaambjhkaaGreatDoorRows
import GoSem.ClaimSeven
namespace Go.Proofs.YtompacaambjhkaaGreatDoor
namespace Rows

/-- THE TIED CARD OF 'laws.FnExactTimesSeries'. -/
def fnExactTimesSeriesCard : Claim7 := { stood := { row := fnExactTimesSeriesRow, standIns := [], harness := (true, "4112cae770ce20dd0a96088e0b5178887e3023aa2650819f03957fb03c792202"), looks := true }, kinds := [], alts := [], laidByText := true, laidKinds := [.data, .data, .data, .sentinel, .sentinel], laidTests := true, laidLooks := .later }
def FnExactTimesSeriesCardSaid : Prop := Claim7.holds Tryz.pinned (.plain (OpenSpec.ofChange fnExactTimesSeriesSpec)) fnExactTimesSeriesCard

/-- THE TIED CARD OF 'laws.FnExactPowerSeries'. -/
def fnExactPowerSeriesCard : Claim7 := { stood := { row := fnExactPowerSeriesRow, standIns := [], harness := (true, "4112cae770ce20dd0a96088e0b5178887e3023aa2650819f03957fb03c792202"), looks := true }, kinds := [], alts := [], laidByText := true, laidKinds := [.data, .data, .data, .sentinel, .sentinel], laidTests := true, laidLooks := .later }
def FnExactPowerSeriesCardSaid : Prop := Claim7.holds Tryz.pinned (.plain (OpenSpec.ofChange fnExactPowerSeriesSpec)) fnExactPowerSeriesCard

/-- THE TIED CARD OF 'laws.FnExactLengthMean'. -/
def fnExactLengthMeanCard : Claim7 := { stood := { row := fnExactLengthMeanRow, standIns := [], harness := (true, "4112cae770ce20dd0a96088e0b5178887e3023aa2650819f03957fb03c792202"), looks := true }, kinds := [], alts := [], laidByText := true, laidKinds := [.data, .data, .data, .sentinel, .sentinel], laidTests := true, laidLooks := .later }
def FnExactLengthMeanCardSaid : Prop := Claim7.holds Tryz.pinned (.plain (OpenSpec.ofChange fnExactLengthMeanSpec)) fnExactLengthMeanCard

/-- THE SECOND FORM's CARD OF 'laws.FnExactTimesSeries'. -/
def fnExactTimesSeriesUptoCard : Claim7 := { stood := { row := fnExactTimesSeriesUptoRow, standIns := [], harness := (true, "4112cae770ce20dd0a96088e0b5178887e3023aa2650819f03957fb03c792202"), looks := true }, kinds := [], alts := [], laidByText := true, laidKinds := [.data, .data, .data, .sentinel, .sentinel], laidTests := true, laidLooks := .later }
def FnExactTimesSeriesUptoCardSaid : Prop := Claim7.holds Tryz.pinned (.plain (OpenSpec.upto fnExactTimesSeriesSpec)) fnExactTimesSeriesUptoCard

/-- THE SECOND FORM's CARD OF 'laws.FnExactPowerSeries'. -/
def fnExactPowerSeriesUptoCard : Claim7 := { stood := { row := fnExactPowerSeriesUptoRow, standIns := [], harness := (true, "4112cae770ce20dd0a96088e0b5178887e3023aa2650819f03957fb03c792202"), looks := true }, kinds := [], alts := [], laidByText := true, laidKinds := [.data, .data, .data, .sentinel, .sentinel], laidTests := true, laidLooks := .later }
def FnExactPowerSeriesUptoCardSaid : Prop := Claim7.holds Tryz.pinned (.plain (OpenSpec.upto fnExactPowerSeriesSpec)) fnExactPowerSeriesUptoCard

/-- THE SECOND FORM's CARD OF 'laws.FnExactLengthMean'. -/
def fnExactLengthMeanUptoCard : Claim7 := { stood := { row := fnExactLengthMeanUptoRow, standIns := [], harness := (true, "4112cae770ce20dd0a96088e0b5178887e3023aa2650819f03957fb03c792202"), looks := true }, kinds := [], alts := [], laidByText := true, laidKinds := [.data, .data, .data, .sentinel, .sentinel], laidTests := true, laidLooks := .later }
def FnExactLengthMeanUptoCardSaid : Prop := Claim7.holds Tryz.pinned (.plain (OpenSpec.upto fnExactLengthMeanSpec)) fnExactLengthMeanUptoCard
end Rows
end Go.Proofs.YtompacaambjhkaaGreatDoor
