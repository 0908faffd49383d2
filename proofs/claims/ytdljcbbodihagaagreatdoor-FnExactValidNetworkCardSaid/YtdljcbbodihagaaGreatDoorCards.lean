/-
  DERIVED. GIVEN WITH THE SEED: THE CARDS: each row of YtdljcbbodihagaaGreatDoorRows.lean that lists a variable, with what it lists TIED to the program's text (the seventh form; the later family's looks); each row that meets fmt, with fmt's text TOLD by the authors' own Lean function (tested against real Go, not proved from fmt's source: count such statements apart). THE CARD IS WHAT COUNTS. Prove the row's statement (the work); the ties are given (YtdljcbbodihagaaGreatDoorTie.lean); close each card by the builder's one call (the guide's Derived/Test/ToyasCard.lean, 'card_holds'). Laid BY PROGRAM, IN A SANDBOX (cutbox-door.mjs). By AI agents, Wed Nov 11 2026. No macro, syntax, notation, axiom, sorry.
-/
import Derived.Test.YtdljcbbodihagaaGreatDoorRows
import GoSem.ClaimSeven
namespace Go.Proofs.YtdljcbbodihagaaGreatDoor
namespace Rows

/-- THE TIED CARD OF 'laws.FnExactValidNetwork'. -/
def fnExactValidNetworkCard : Claim7 := { stood := { row := fnExactValidNetworkRow, standIns := [], harness := (true, "e7636e07b153c0b397c1d7a661e80b74f267f00340ff22ab8150e2339892ffcf"), looks := true }, kinds := [], alts := [], laidByText := true, laidKinds := [.data, .data, .data, .sentinel, .sentinel], laidTests := true, laidLooks := .later }
def FnExactValidNetworkCardSaid : Prop := Claim7.holds Tryz.pinned (.plain (OpenSpec.ofChange fnExactValidNetworkSpec)) fnExactValidNetworkCard

/-- THE SECOND FORM's CARD OF 'laws.FnExactValidNetwork'. -/
def fnExactValidNetworkUptoCard : Claim7 := { stood := { row := fnExactValidNetworkUptoRow, standIns := [], harness := (true, "e7636e07b153c0b397c1d7a661e80b74f267f00340ff22ab8150e2339892ffcf"), looks := true }, kinds := [], alts := [], laidByText := true, laidKinds := [.data, .data, .data, .sentinel, .sentinel], laidTests := true, laidLooks := .later }
def FnExactValidNetworkUptoCardSaid : Prop := Claim7.holds Tryz.pinned (.plain (OpenSpec.upto fnExactValidNetworkSpec)) fnExactValidNetworkUptoCard
end Rows
end Go.Proofs.YtdljcbbodihagaaGreatDoor
