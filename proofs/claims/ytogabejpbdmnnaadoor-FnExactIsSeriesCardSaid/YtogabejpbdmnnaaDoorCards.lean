/-
  DERIVED. GIVEN WITH THE SEED: THE CARDS: each row of YtogabejpbdmnnaaDoorRows.lean that lists a variable, with what it lists TIED to the program's text (the seventh form; the later family's looks); each row that meets fmt, with fmt's text TOLD by the authors' own Lean function (tested against real Go, not proved from fmt's source: count such statements apart). THE CARD IS WHAT COUNTS. Prove the row's statement (the work); the ties are given (YtogabejpbdmnnaaDoorTie.lean); close each card by the builder's one call (the guide's Derived/Test/ToyasCard.lean, 'card_holds'). Laid BY PROGRAM, IN A SANDBOX (cutbox-door.mjs). By AI agents, Wed Nov 11 2026. No macro, syntax, notation, axiom, sorry.
-/
import Derived.Test.YtogabejpbdmnnaaDoorRows
import GoSem.ClaimSeven
namespace Go.Proofs.YtogabejpbdmnnaaDoor
namespace Rows

/-- THE TIED CARD OF 'laws.FnExactIsSeries'. -/
def fnExactIsSeriesCard : Claim7 := { stood := { row := fnExactIsSeriesRow, standIns := [], harness := (true, "f3fd37c40f2dc2a28ecc1f31ce26f4fa5745fdc38e6730f4b1104d87c236cac5"), looks := true }, kinds := [], alts := [], laidByText := true, laidKinds := [.data, .data, .data, .sentinel, .sentinel], laidTests := true, laidLooks := .later }
def FnExactIsSeriesCardSaid : Prop := Claim7.holds Tryd.pinned (.plain (OpenSpec.ofChange fnExactIsSeriesSpec)) fnExactIsSeriesCard

/-- THE SECOND FORM's CARD OF 'laws.FnExactIsSeries'. -/
def fnExactIsSeriesUptoCard : Claim7 := { stood := { row := fnExactIsSeriesUptoRow, standIns := [], harness := (true, "f3fd37c40f2dc2a28ecc1f31ce26f4fa5745fdc38e6730f4b1104d87c236cac5"), looks := true }, kinds := [], alts := [], laidByText := true, laidKinds := [.data, .data, .data, .sentinel, .sentinel], laidTests := true, laidLooks := .later }
def FnExactIsSeriesUptoCardSaid : Prop := Claim7.holds Tryd.pinned (.plain (OpenSpec.upto fnExactIsSeriesSpec)) fnExactIsSeriesUptoCard
end Rows
end Go.Proofs.YtogabejpbdmnnaaDoor
