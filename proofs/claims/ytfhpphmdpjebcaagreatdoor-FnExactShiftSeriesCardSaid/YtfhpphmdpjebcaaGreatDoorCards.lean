/-
  DERIVED. GIVEN WITH THE SEED: THE CARDS: each row of YtfhpphmdpjebcaaGreatDoorRows.lean that lists a variable, with what it lists TIED to the program's text (the seventh form; the later family's looks); each row that meets fmt, with fmt's text TOLD by the authors' own Lean function (tested against real Go, not proved from fmt's source: count such statements apart). THE CARD IS WHAT COUNTS. Prove the row's statement (the work); the ties are given (YtfhpphmdpjebcaaGreatDoorTie.lean); close each card by the builder's one call (the guide's Derived/Test/ToyasCard.lean, 'card_holds'). Laid BY PROGRAM, IN A SANDBOX (cutbox-door.mjs). By AI agents, Wed Nov 11 2026. No macro, syntax, notation, axiom, sorry.
-/
import Derived.Test.YtfhpphmdpjebcaaGreatDoorRows
import GoSem.ClaimSeven
namespace Go.Proofs.YtfhpphmdpjebcaaGreatDoor
namespace Rows

/-- THE TIED CARD OF 'laws.FnExactDeriveSeries'. -/
def fnExactDeriveSeriesCard : Claim7 := { stood := { row := fnExactDeriveSeriesRow, standIns := [], harness := (true, "ac466e4263ab4bb72138546fd667ab749f019664f687b9c9db00274d927f2c46"), looks := true }, kinds := [], alts := [], laidByText := true, laidKinds := [.data, .data, .data, .sentinel, .sentinel], laidTests := true, laidLooks := .later }
def FnExactDeriveSeriesCardSaid : Prop := Claim7.holds Tryz.pinned (.plain (OpenSpec.ofChange fnExactDeriveSeriesSpec)) fnExactDeriveSeriesCard

/-- THE TIED CARD OF 'laws.FnExactShiftSeries'. -/
def fnExactShiftSeriesCard : Claim7 := { stood := { row := fnExactShiftSeriesRow, standIns := [], harness := (true, "ac466e4263ab4bb72138546fd667ab749f019664f687b9c9db00274d927f2c46"), looks := true }, kinds := [], alts := [], laidByText := true, laidKinds := [.data, .data, .data, .sentinel, .sentinel], laidTests := true, laidLooks := .later }
def FnExactShiftSeriesCardSaid : Prop := Claim7.holds Tryz.pinned (.plain (OpenSpec.ofChange fnExactShiftSeriesSpec)) fnExactShiftSeriesCard

/-- THE TIED CARD OF 'laws.FnExactValueAt'. -/
def fnExactValueAtCard : Claim7 := { stood := { row := fnExactValueAtRow, standIns := [], harness := (true, "ac466e4263ab4bb72138546fd667ab749f019664f687b9c9db00274d927f2c46"), looks := true }, kinds := [], alts := [], laidByText := true, laidKinds := [.data, .data, .data, .sentinel, .sentinel], laidTests := true, laidLooks := .later }
def FnExactValueAtCardSaid : Prop := Claim7.holds Tryz.pinned (.plain (OpenSpec.ofChange fnExactValueAtSpec)) fnExactValueAtCard

/-- THE TIED CARD OF 'laws.FnExactFactorMoment'. -/
def fnExactFactorMomentCard : Claim7 := { stood := { row := fnExactFactorMomentRow, standIns := [], harness := (true, "ac466e4263ab4bb72138546fd667ab749f019664f687b9c9db00274d927f2c46"), looks := true }, kinds := [], alts := [], laidByText := true, laidKinds := [.data, .data, .data, .sentinel, .sentinel], laidTests := true, laidLooks := .later }
def FnExactFactorMomentCardSaid : Prop := Claim7.holds Tryz.pinned (.plain (OpenSpec.ofChange fnExactFactorMomentSpec)) fnExactFactorMomentCard

/-- THE TIED CARD OF 'laws.FnExactAddSeries'. -/
def fnExactAddSeriesCard : Claim7 := { stood := { row := fnExactAddSeriesRow, standIns := [], harness := (true, "ac466e4263ab4bb72138546fd667ab749f019664f687b9c9db00274d927f2c46"), looks := true }, kinds := [], alts := [], laidByText := true, laidKinds := [.data, .data, .data, .sentinel, .sentinel], laidTests := true, laidLooks := .later }
def FnExactAddSeriesCardSaid : Prop := Claim7.holds Tryz.pinned (.plain (OpenSpec.ofChange fnExactAddSeriesSpec)) fnExactAddSeriesCard

/-- THE TIED CARD OF 'laws.FnExactLessSeries'. -/
def fnExactLessSeriesCard : Claim7 := { stood := { row := fnExactLessSeriesRow, standIns := [], harness := (true, "ac466e4263ab4bb72138546fd667ab749f019664f687b9c9db00274d927f2c46"), looks := true }, kinds := [], alts := [], laidByText := true, laidKinds := [.data, .data, .data, .sentinel, .sentinel], laidTests := true, laidLooks := .later }
def FnExactLessSeriesCardSaid : Prop := Claim7.holds Tryz.pinned (.plain (OpenSpec.ofChange fnExactLessSeriesSpec)) fnExactLessSeriesCard

/-- THE TIED CARD OF 'laws.FnExactSumSeries'. -/
def fnExactSumSeriesCard : Claim7 := { stood := { row := fnExactSumSeriesRow, standIns := [], harness := (true, "ac466e4263ab4bb72138546fd667ab749f019664f687b9c9db00274d927f2c46"), looks := true }, kinds := [], alts := [], laidByText := true, laidKinds := [.data, .data, .data, .sentinel, .sentinel], laidTests := true, laidLooks := .later }
def FnExactSumSeriesCardSaid : Prop := Claim7.holds Tryz.pinned (.plain (OpenSpec.ofChange fnExactSumSeriesSpec)) fnExactSumSeriesCard

/-- THE TIED CARD OF 'laws.FnExactOverSeries'. -/
def fnExactOverSeriesCard : Claim7 := { stood := { row := fnExactOverSeriesRow, standIns := [], harness := (true, "ac466e4263ab4bb72138546fd667ab749f019664f687b9c9db00274d927f2c46"), looks := true }, kinds := [], alts := [], laidByText := true, laidKinds := [.data, .data, .data, .sentinel, .sentinel], laidTests := true, laidLooks := .later }
def FnExactOverSeriesCardSaid : Prop := Claim7.holds Tryz.pinned (.plain (OpenSpec.ofChange fnExactOverSeriesSpec)) fnExactOverSeriesCard

/-- THE TIED CARD OF 'laws.FnExactTimesSeries'. -/
def fnExactTimesSeriesCard : Claim7 := { stood := { row := fnExactTimesSeriesRow, standIns := [], harness := (true, "ac466e4263ab4bb72138546fd667ab749f019664f687b9c9db00274d927f2c46"), looks := true }, kinds := [], alts := [], laidByText := true, laidKinds := [.data, .data, .data, .sentinel, .sentinel], laidTests := true, laidLooks := .later }
def FnExactTimesSeriesCardSaid : Prop := Claim7.holds Tryz.pinned (.plain (OpenSpec.ofChange fnExactTimesSeriesSpec)) fnExactTimesSeriesCard

/-- THE TIED CARD OF 'laws.FnExactPowerSeries'. -/
def fnExactPowerSeriesCard : Claim7 := { stood := { row := fnExactPowerSeriesRow, standIns := [], harness := (true, "ac466e4263ab4bb72138546fd667ab749f019664f687b9c9db00274d927f2c46"), looks := true }, kinds := [], alts := [], laidByText := true, laidKinds := [.data, .data, .data, .sentinel, .sentinel], laidTests := true, laidLooks := .later }
def FnExactPowerSeriesCardSaid : Prop := Claim7.holds Tryz.pinned (.plain (OpenSpec.ofChange fnExactPowerSeriesSpec)) fnExactPowerSeriesCard

/-- THE TIED CARD OF 'laws.FnExactTailsOf'. -/
def fnExactTailsOfCard : Claim7 := { stood := { row := fnExactTailsOfRow, standIns := [], harness := (true, "ac466e4263ab4bb72138546fd667ab749f019664f687b9c9db00274d927f2c46"), looks := true }, kinds := [], alts := [], laidByText := true, laidKinds := [.data, .data, .data, .sentinel, .sentinel], laidTests := true, laidLooks := .later }
def FnExactTailsOfCardSaid : Prop := Claim7.holds Tryz.pinned (.plain (OpenSpec.ofChange fnExactTailsOfSpec)) fnExactTailsOfCard

/-- THE TIED CARD OF 'laws.FnExactComposeSeries'. -/
def fnExactComposeSeriesCard : Claim7 := { stood := { row := fnExactComposeSeriesRow, standIns := [], harness := (true, "ac466e4263ab4bb72138546fd667ab749f019664f687b9c9db00274d927f2c46"), looks := true }, kinds := [], alts := [], laidByText := true, laidKinds := [.data, .data, .data, .sentinel, .sentinel], laidTests := true, laidLooks := .later }
def FnExactComposeSeriesCardSaid : Prop := Claim7.holds Tryz.pinned (.plain (OpenSpec.ofChange fnExactComposeSeriesSpec)) fnExactComposeSeriesCard

/-- THE SECOND FORM's CARD OF 'laws.FnExactDeriveSeries'. -/
def fnExactDeriveSeriesUptoCard : Claim7 := { stood := { row := fnExactDeriveSeriesUptoRow, standIns := [], harness := (true, "ac466e4263ab4bb72138546fd667ab749f019664f687b9c9db00274d927f2c46"), looks := true }, kinds := [], alts := [], laidByText := true, laidKinds := [.data, .data, .data, .sentinel, .sentinel], laidTests := true, laidLooks := .later }
def FnExactDeriveSeriesUptoCardSaid : Prop := Claim7.holds Tryz.pinned (.plain (OpenSpec.upto fnExactDeriveSeriesSpec)) fnExactDeriveSeriesUptoCard

/-- THE SECOND FORM's CARD OF 'laws.FnExactShiftSeries'. -/
def fnExactShiftSeriesUptoCard : Claim7 := { stood := { row := fnExactShiftSeriesUptoRow, standIns := [], harness := (true, "ac466e4263ab4bb72138546fd667ab749f019664f687b9c9db00274d927f2c46"), looks := true }, kinds := [], alts := [], laidByText := true, laidKinds := [.data, .data, .data, .sentinel, .sentinel], laidTests := true, laidLooks := .later }
def FnExactShiftSeriesUptoCardSaid : Prop := Claim7.holds Tryz.pinned (.plain (OpenSpec.upto fnExactShiftSeriesSpec)) fnExactShiftSeriesUptoCard

/-- THE SECOND FORM's CARD OF 'laws.FnExactValueAt'. -/
def fnExactValueAtUptoCard : Claim7 := { stood := { row := fnExactValueAtUptoRow, standIns := [], harness := (true, "ac466e4263ab4bb72138546fd667ab749f019664f687b9c9db00274d927f2c46"), looks := true }, kinds := [], alts := [], laidByText := true, laidKinds := [.data, .data, .data, .sentinel, .sentinel], laidTests := true, laidLooks := .later }
def FnExactValueAtUptoCardSaid : Prop := Claim7.holds Tryz.pinned (.plain (OpenSpec.upto fnExactValueAtSpec)) fnExactValueAtUptoCard

/-- THE SECOND FORM's CARD OF 'laws.FnExactFactorMoment'. -/
def fnExactFactorMomentUptoCard : Claim7 := { stood := { row := fnExactFactorMomentUptoRow, standIns := [], harness := (true, "ac466e4263ab4bb72138546fd667ab749f019664f687b9c9db00274d927f2c46"), looks := true }, kinds := [], alts := [], laidByText := true, laidKinds := [.data, .data, .data, .sentinel, .sentinel], laidTests := true, laidLooks := .later }
def FnExactFactorMomentUptoCardSaid : Prop := Claim7.holds Tryz.pinned (.plain (OpenSpec.upto fnExactFactorMomentSpec)) fnExactFactorMomentUptoCard

/-- THE SECOND FORM's CARD OF 'laws.FnExactAddSeries'. -/
def fnExactAddSeriesUptoCard : Claim7 := { stood := { row := fnExactAddSeriesUptoRow, standIns := [], harness := (true, "ac466e4263ab4bb72138546fd667ab749f019664f687b9c9db00274d927f2c46"), looks := true }, kinds := [], alts := [], laidByText := true, laidKinds := [.data, .data, .data, .sentinel, .sentinel], laidTests := true, laidLooks := .later }
def FnExactAddSeriesUptoCardSaid : Prop := Claim7.holds Tryz.pinned (.plain (OpenSpec.upto fnExactAddSeriesSpec)) fnExactAddSeriesUptoCard

/-- THE SECOND FORM's CARD OF 'laws.FnExactLessSeries'. -/
def fnExactLessSeriesUptoCard : Claim7 := { stood := { row := fnExactLessSeriesUptoRow, standIns := [], harness := (true, "ac466e4263ab4bb72138546fd667ab749f019664f687b9c9db00274d927f2c46"), looks := true }, kinds := [], alts := [], laidByText := true, laidKinds := [.data, .data, .data, .sentinel, .sentinel], laidTests := true, laidLooks := .later }
def FnExactLessSeriesUptoCardSaid : Prop := Claim7.holds Tryz.pinned (.plain (OpenSpec.upto fnExactLessSeriesSpec)) fnExactLessSeriesUptoCard

/-- THE SECOND FORM's CARD OF 'laws.FnExactSumSeries'. -/
def fnExactSumSeriesUptoCard : Claim7 := { stood := { row := fnExactSumSeriesUptoRow, standIns := [], harness := (true, "ac466e4263ab4bb72138546fd667ab749f019664f687b9c9db00274d927f2c46"), looks := true }, kinds := [], alts := [], laidByText := true, laidKinds := [.data, .data, .data, .sentinel, .sentinel], laidTests := true, laidLooks := .later }
def FnExactSumSeriesUptoCardSaid : Prop := Claim7.holds Tryz.pinned (.plain (OpenSpec.upto fnExactSumSeriesSpec)) fnExactSumSeriesUptoCard

/-- THE SECOND FORM's CARD OF 'laws.FnExactOverSeries'. -/
def fnExactOverSeriesUptoCard : Claim7 := { stood := { row := fnExactOverSeriesUptoRow, standIns := [], harness := (true, "ac466e4263ab4bb72138546fd667ab749f019664f687b9c9db00274d927f2c46"), looks := true }, kinds := [], alts := [], laidByText := true, laidKinds := [.data, .data, .data, .sentinel, .sentinel], laidTests := true, laidLooks := .later }
def FnExactOverSeriesUptoCardSaid : Prop := Claim7.holds Tryz.pinned (.plain (OpenSpec.upto fnExactOverSeriesSpec)) fnExactOverSeriesUptoCard

/-- THE SECOND FORM's CARD OF 'laws.FnExactTimesSeries'. -/
def fnExactTimesSeriesUptoCard : Claim7 := { stood := { row := fnExactTimesSeriesUptoRow, standIns := [], harness := (true, "ac466e4263ab4bb72138546fd667ab749f019664f687b9c9db00274d927f2c46"), looks := true }, kinds := [], alts := [], laidByText := true, laidKinds := [.data, .data, .data, .sentinel, .sentinel], laidTests := true, laidLooks := .later }
def FnExactTimesSeriesUptoCardSaid : Prop := Claim7.holds Tryz.pinned (.plain (OpenSpec.upto fnExactTimesSeriesSpec)) fnExactTimesSeriesUptoCard

/-- THE SECOND FORM's CARD OF 'laws.FnExactPowerSeries'. -/
def fnExactPowerSeriesUptoCard : Claim7 := { stood := { row := fnExactPowerSeriesUptoRow, standIns := [], harness := (true, "ac466e4263ab4bb72138546fd667ab749f019664f687b9c9db00274d927f2c46"), looks := true }, kinds := [], alts := [], laidByText := true, laidKinds := [.data, .data, .data, .sentinel, .sentinel], laidTests := true, laidLooks := .later }
def FnExactPowerSeriesUptoCardSaid : Prop := Claim7.holds Tryz.pinned (.plain (OpenSpec.upto fnExactPowerSeriesSpec)) fnExactPowerSeriesUptoCard

/-- THE SECOND FORM's CARD OF 'laws.FnExactTailsOf'. -/
def fnExactTailsOfUptoCard : Claim7 := { stood := { row := fnExactTailsOfUptoRow, standIns := [], harness := (true, "ac466e4263ab4bb72138546fd667ab749f019664f687b9c9db00274d927f2c46"), looks := true }, kinds := [], alts := [], laidByText := true, laidKinds := [.data, .data, .data, .sentinel, .sentinel], laidTests := true, laidLooks := .later }
def FnExactTailsOfUptoCardSaid : Prop := Claim7.holds Tryz.pinned (.plain (OpenSpec.upto fnExactTailsOfSpec)) fnExactTailsOfUptoCard

/-- THE SECOND FORM's CARD OF 'laws.FnExactComposeSeries'. -/
def fnExactComposeSeriesUptoCard : Claim7 := { stood := { row := fnExactComposeSeriesUptoRow, standIns := [], harness := (true, "ac466e4263ab4bb72138546fd667ab749f019664f687b9c9db00274d927f2c46"), looks := true }, kinds := [], alts := [], laidByText := true, laidKinds := [.data, .data, .data, .sentinel, .sentinel], laidTests := true, laidLooks := .later }
def FnExactComposeSeriesUptoCardSaid : Prop := Claim7.holds Tryz.pinned (.plain (OpenSpec.upto fnExactComposeSeriesSpec)) fnExactComposeSeriesUptoCard
end Rows
end Go.Proofs.YtfhpphmdpjebcaaGreatDoor
