/-
  DERIVED. GIVEN WITH THE SEED: THE CARDS: each row of YtgfencjehdbjcaaGreatDoorRows.lean that lists a variable, with what it lists TIED to the program's text (the seventh form; the later family's looks); each row that meets fmt, with fmt's text TOLD by the authors' own Lean function (tested against real Go, not proved from fmt's source: count such statements apart). THE CARD IS WHAT COUNTS. Prove the row's statement (the work); the ties are given (YtgfencjehdbjcaaGreatDoorTie.lean); close each card by the builder's one call (the guide's Derived/Test/ToyasCard.lean, 'card_holds'). Laid BY PROGRAM, IN A SANDBOX (cutbox-door.mjs). By AI agents, Wed Nov 11 2026. No macro, syntax, notation, axiom, sorry.
-/
import Derived.Test.YtgfencjehdbjcaaGreatDoorRows
import GoSem.ClaimSeven
namespace Go.Proofs.YtgfencjehdbjcaaGreatDoor
namespace Rows

/-- THE TIED CARD OF 'laws.FnExactBestActs'. -/
def fnExactBestActsCard : Claim7 := { stood := { row := fnExactBestActsRow, standIns := [], harness := (true, "d3fa94522b59ff43ee21dae2e57388c28237ddde93f810d5d297de6a2452b092"), looks := true }, kinds := [], alts := [], laidByText := true, laidKinds := [.data, .data, .data, .sentinel, .sentinel], laidTests := true, laidLooks := .later }
def FnExactBestActsCardSaid : Prop := Claim7.holds Tryz.pinned (.plain (OpenSpec.ofChange fnExactBestActsSpec)) fnExactBestActsCard

/-- THE TIED CARD OF 'laws.FnExactIsBestPolicy'. -/
def fnExactIsBestPolicyCard : Claim7 := { stood := { row := fnExactIsBestPolicyRow, standIns := [], harness := (true, "d3fa94522b59ff43ee21dae2e57388c28237ddde93f810d5d297de6a2452b092"), looks := true }, kinds := [], alts := [], laidByText := true, laidKinds := [.data, .data, .data, .sentinel, .sentinel], laidTests := true, laidLooks := .later }
def FnExactIsBestPolicyCardSaid : Prop := Claim7.holds Tryz.pinned (.plain (OpenSpec.ofChange fnExactIsBestPolicySpec)) fnExactIsBestPolicyCard

/-- THE TIED CARD OF 'laws.FnExactImproveActs'. -/
def fnExactImproveActsCard : Claim7 := { stood := { row := fnExactImproveActsRow, standIns := [], harness := (true, "d3fa94522b59ff43ee21dae2e57388c28237ddde93f810d5d297de6a2452b092"), looks := true }, kinds := [], alts := [], laidByText := true, laidKinds := [.data, .data, .data, .sentinel, .sentinel], laidTests := true, laidLooks := .later }
def FnExactImproveActsCardSaid : Prop := Claim7.holds Tryz.pinned (.plain (OpenSpec.ofChange fnExactImproveActsSpec)) fnExactImproveActsCard

/-- THE SECOND FORM's CARD OF 'laws.FnExactBestActs'. -/
def fnExactBestActsUptoCard : Claim7 := { stood := { row := fnExactBestActsUptoRow, standIns := [], harness := (true, "d3fa94522b59ff43ee21dae2e57388c28237ddde93f810d5d297de6a2452b092"), looks := true }, kinds := [], alts := [], laidByText := true, laidKinds := [.data, .data, .data, .sentinel, .sentinel], laidTests := true, laidLooks := .later }
def FnExactBestActsUptoCardSaid : Prop := Claim7.holds Tryz.pinned (.plain (OpenSpec.upto fnExactBestActsSpec)) fnExactBestActsUptoCard

/-- THE SECOND FORM's CARD OF 'laws.FnExactIsBestPolicy'. -/
def fnExactIsBestPolicyUptoCard : Claim7 := { stood := { row := fnExactIsBestPolicyUptoRow, standIns := [], harness := (true, "d3fa94522b59ff43ee21dae2e57388c28237ddde93f810d5d297de6a2452b092"), looks := true }, kinds := [], alts := [], laidByText := true, laidKinds := [.data, .data, .data, .sentinel, .sentinel], laidTests := true, laidLooks := .later }
def FnExactIsBestPolicyUptoCardSaid : Prop := Claim7.holds Tryz.pinned (.plain (OpenSpec.upto fnExactIsBestPolicySpec)) fnExactIsBestPolicyUptoCard

/-- THE SECOND FORM's CARD OF 'laws.FnExactImproveActs'. -/
def fnExactImproveActsUptoCard : Claim7 := { stood := { row := fnExactImproveActsUptoRow, standIns := [], harness := (true, "d3fa94522b59ff43ee21dae2e57388c28237ddde93f810d5d297de6a2452b092"), looks := true }, kinds := [], alts := [], laidByText := true, laidKinds := [.data, .data, .data, .sentinel, .sentinel], laidTests := true, laidLooks := .later }
def FnExactImproveActsUptoCardSaid : Prop := Claim7.holds Tryz.pinned (.plain (OpenSpec.upto fnExactImproveActsSpec)) fnExactImproveActsUptoCard
end Rows
end Go.Proofs.YtgfencjehdbjcaaGreatDoor
