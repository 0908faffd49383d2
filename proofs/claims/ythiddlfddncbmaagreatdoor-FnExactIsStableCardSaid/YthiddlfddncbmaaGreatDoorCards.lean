/-
  DERIVED. GIVEN WITH THE SEED: THE CARDS: each row of YthiddlfddncbmaaGreatDoorRows.lean that lists a variable, with what it lists TIED to the program's text (the seventh form; the later family's looks); each row that meets fmt, with fmt's text TOLD by the authors' own Lean function (tested against real Go, not proved from fmt's source: count such statements apart). THE CARD IS WHAT COUNTS. Prove the row's statement (the work); the ties are given (YthiddlfddncbmaaGreatDoorTie.lean); close each card by the builder's one call (the guide's Derived/Test/ToyasCard.lean, 'card_holds'). Laid BY PROGRAM, IN A SANDBOX (cutbox-door.mjs). By AI agents, Wed Nov 11 2026. No macro, syntax, notation, axiom, sorry.
-/
import Derived.Test.YthiddlfddncbmaaGreatDoorRows
import GoSem.ClaimSeven
namespace Go.Proofs.YthiddlfddncbmaaGreatDoor
namespace Rows

/-- THE TIED CARD OF 'laws.FnExactIsStable'. -/
def fnExactIsStableCard : Claim7 := { stood := { row := fnExactIsStableRow, standIns := [], harness := (true, "6d454180453f8bb347b776de48559c70c105499030be71669d12e2061e84d6cf"), looks := true }, kinds := [], alts := [], laidByText := true, laidKinds := [.data, .data, .data, .sentinel, .sentinel], laidTests := true, laidLooks := .later }
def FnExactIsStableCardSaid : Prop := Claim7.holds Tryz.pinned (.plain (OpenSpec.ofChange fnExactIsStableSpec)) fnExactIsStableCard

/-- THE TIED CARD OF 'laws.FnExactFlowsOf'. -/
def fnExactFlowsOfCard : Claim7 := { stood := { row := fnExactFlowsOfRow, standIns := [], harness := (true, "6d454180453f8bb347b776de48559c70c105499030be71669d12e2061e84d6cf"), looks := true }, kinds := [], alts := [], laidByText := true, laidKinds := [.data, .data, .data, .sentinel, .sentinel], laidTests := true, laidLooks := .later }
def FnExactFlowsOfCardSaid : Prop := Claim7.holds Tryz.pinned (.plain (OpenSpec.ofChange fnExactFlowsOfSpec)) fnExactFlowsOfCard

/-- THE TIED CARD OF 'laws.FnExactLoadsOf'. -/
def fnExactLoadsOfCard : Claim7 := { stood := { row := fnExactLoadsOfRow, standIns := [], harness := (true, "6d454180453f8bb347b776de48559c70c105499030be71669d12e2061e84d6cf"), looks := true }, kinds := [], alts := [], laidByText := true, laidKinds := [.data, .data, .data, .sentinel, .sentinel], laidTests := true, laidLooks := .later }
def FnExactLoadsOfCardSaid : Prop := Claim7.holds Tryz.pinned (.plain (OpenSpec.ofChange fnExactLoadsOfSpec)) fnExactLoadsOfCard

/-- THE TIED CARD OF 'laws.FnExactLengthsOf'. -/
def fnExactLengthsOfCard : Claim7 := { stood := { row := fnExactLengthsOfRow, standIns := [], harness := (true, "6d454180453f8bb347b776de48559c70c105499030be71669d12e2061e84d6cf"), looks := true }, kinds := [], alts := [], laidByText := true, laidKinds := [.data, .data, .data, .sentinel, .sentinel], laidTests := true, laidLooks := .later }
def FnExactLengthsOfCardSaid : Prop := Claim7.holds Tryz.pinned (.plain (OpenSpec.ofChange fnExactLengthsOfSpec)) fnExactLengthsOfCard

/-- THE SECOND FORM's CARD OF 'laws.FnExactIsStable'. -/
def fnExactIsStableUptoCard : Claim7 := { stood := { row := fnExactIsStableUptoRow, standIns := [], harness := (true, "6d454180453f8bb347b776de48559c70c105499030be71669d12e2061e84d6cf"), looks := true }, kinds := [], alts := [], laidByText := true, laidKinds := [.data, .data, .data, .sentinel, .sentinel], laidTests := true, laidLooks := .later }
def FnExactIsStableUptoCardSaid : Prop := Claim7.holds Tryz.pinned (.plain (OpenSpec.upto fnExactIsStableSpec)) fnExactIsStableUptoCard

/-- THE SECOND FORM's CARD OF 'laws.FnExactFlowsOf'. -/
def fnExactFlowsOfUptoCard : Claim7 := { stood := { row := fnExactFlowsOfUptoRow, standIns := [], harness := (true, "6d454180453f8bb347b776de48559c70c105499030be71669d12e2061e84d6cf"), looks := true }, kinds := [], alts := [], laidByText := true, laidKinds := [.data, .data, .data, .sentinel, .sentinel], laidTests := true, laidLooks := .later }
def FnExactFlowsOfUptoCardSaid : Prop := Claim7.holds Tryz.pinned (.plain (OpenSpec.upto fnExactFlowsOfSpec)) fnExactFlowsOfUptoCard

/-- THE SECOND FORM's CARD OF 'laws.FnExactLoadsOf'. -/
def fnExactLoadsOfUptoCard : Claim7 := { stood := { row := fnExactLoadsOfUptoRow, standIns := [], harness := (true, "6d454180453f8bb347b776de48559c70c105499030be71669d12e2061e84d6cf"), looks := true }, kinds := [], alts := [], laidByText := true, laidKinds := [.data, .data, .data, .sentinel, .sentinel], laidTests := true, laidLooks := .later }
def FnExactLoadsOfUptoCardSaid : Prop := Claim7.holds Tryz.pinned (.plain (OpenSpec.upto fnExactLoadsOfSpec)) fnExactLoadsOfUptoCard

/-- THE SECOND FORM's CARD OF 'laws.FnExactLengthsOf'. -/
def fnExactLengthsOfUptoCard : Claim7 := { stood := { row := fnExactLengthsOfUptoRow, standIns := [], harness := (true, "6d454180453f8bb347b776de48559c70c105499030be71669d12e2061e84d6cf"), looks := true }, kinds := [], alts := [], laidByText := true, laidKinds := [.data, .data, .data, .sentinel, .sentinel], laidTests := true, laidLooks := .later }
def FnExactLengthsOfUptoCardSaid : Prop := Claim7.holds Tryz.pinned (.plain (OpenSpec.upto fnExactLengthsOfSpec)) fnExactLengthsOfUptoCard
end Rows
end Go.Proofs.YthiddlfddncbmaaGreatDoor
