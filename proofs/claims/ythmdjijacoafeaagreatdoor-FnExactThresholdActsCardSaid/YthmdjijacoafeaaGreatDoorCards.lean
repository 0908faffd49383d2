/-
  DERIVED. GIVEN WITH THE SEED: THE CARDS: each row of YthmdjijacoafeaaGreatDoorRows.lean that lists a variable, with what it lists TIED to the program's text (the seventh form; the later family's looks); each row that meets fmt, with fmt's text TOLD by the authors' own Lean function (tested against real Go, not proved from fmt's source: count such statements apart). THE CARD IS WHAT COUNTS. Prove the row's statement (the work); the ties are given (YthmdjijacoafeaaGreatDoorTie.lean); close each card by the builder's one call (the guide's Derived/Test/ToyasCard.lean, 'card_holds'). Laid BY PROGRAM, IN A SANDBOX (cutbox-door.mjs). By AI agents, Wed Nov 11 2026. No macro, syntax, notation, axiom, sorry.
-/
import Derived.Test.YthmdjijacoafeaaGreatDoorRows
import GoSem.ClaimSeven
namespace Go.Proofs.YthmdjijacoafeaaGreatDoor
namespace Rows

/-- THE TIED CARD OF 'laws.FnExactThresholdActs'. -/
def fnExactThresholdActsCard : Claim7 := { stood := { row := fnExactThresholdActsRow, standIns := [], harness := (true, "30b496c7a7240f4fc4fc91c338efcf101b327780edca0c0e40ee9e59106e778e"), looks := true }, kinds := [], alts := [], laidByText := true, laidKinds := [.data, .data, .data, .sentinel, .sentinel], laidTests := true, laidLooks := .later }
def FnExactThresholdActsCardSaid : Prop := Claim7.holds Tryz.pinned (.plain (OpenSpec.ofChange fnExactThresholdActsSpec)) fnExactThresholdActsCard

/-- THE SECOND FORM's CARD OF 'laws.FnExactThresholdActs'. -/
def fnExactThresholdActsUptoCard : Claim7 := { stood := { row := fnExactThresholdActsUptoRow, standIns := [], harness := (true, "30b496c7a7240f4fc4fc91c338efcf101b327780edca0c0e40ee9e59106e778e"), looks := true }, kinds := [], alts := [], laidByText := true, laidKinds := [.data, .data, .data, .sentinel, .sentinel], laidTests := true, laidLooks := .later }
def FnExactThresholdActsUptoCardSaid : Prop := Claim7.holds Tryz.pinned (.plain (OpenSpec.upto fnExactThresholdActsSpec)) fnExactThresholdActsUptoCard
end Rows
end Go.Proofs.YthmdjijacoafeaaGreatDoor
