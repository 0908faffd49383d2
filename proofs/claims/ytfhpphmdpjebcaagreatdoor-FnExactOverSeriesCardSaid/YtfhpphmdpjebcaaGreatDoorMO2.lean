/- A part of the proof that stands in YtfhpphmdpjebcaaGreatDoorMO3. -/
import Derived.Test.YtfhpphmdpjebcaaGreatDoorMO1

set_option linter.unusedVariables false
set_option linter.unusedSimpArgs false
set_option maxRecDepth 100000
namespace Go.Proofs.YtfhpphmdpjebcaaGreatDoor
open Go

section
open Go Go.ChangeShapes Go.WideShapes Go.ChangeAt Go.RowKit
abbrev laid_OverSeries : List (String × DataW Unit) := Rows.fnExactOverSeriesRow.laid
set_option maxRecDepth 100000 in
theorem door_OverSeries (os : Os) (args : Array Value) : laidMetH Tryz.prog laid_OverSeries ((World.doorLaid Tryz.prog 400 os).forCall (fun _ _ => 0) ⟨#[], args, []⟩).memory :=
  laidMetH_of_parts3 (fuel := 8) (laidMet_of_run' 8 (by kernel_rfl) (by kernel_rfl)) (by kernel_rfl) (by kernel_rfl)
theorem tabl_OverSeries (w : World) (h : laidMetH Tryz.prog laid_OverSeries w) : ∀ g, Program.globalNamed Tryz.prog tabName = some g → Lib.TabIs Tryz.prog w tabName .u64 tabNums := tab_p 2 (by kernel_rfl) (show List.drop 2 Rows.fnExactOverSeriesRow.laid = (tabName, Lib.tabData .u64 tabNums) :: List.drop 3 Rows.fnExactOverSeriesRow.laid by kernel_rfl) h
set_option maxRecDepth 100000 in
theorem fit_OverSeries : tysFit Tryz.prog [.cell (.sl 9 (.str)), .cell (.sl 9 (.str))] [22, 22] := ⟨fit_sl Tryz.underlying22 (by kernel_rfl) (by kernel_rfl) (of_decide_eq_true (by kernel_rfl)) (fit_str Tryz.underlying9), fit_sl Tryz.underlying22 (by kernel_rfl) (by kernel_rfl) (of_decide_eq_true (by kernel_rfl)) (fit_str Tryz.underlying9), trivial⟩
set_option maxRecDepth 100000 in
theorem lifted_OverSeries (os : Os) (started : os.Started) (H : Type) (enc : TypeId × Value → H) :
    ReturnsInHanded {} Tryz.checked os 10 .any (fun w args => (Rows.fnExactOverSeriesSpec.pre enc Tryz.prog Tryz.f10 [] false w args ∧ laidMetH Tryz.prog laid_OverSeries w) ∧ sizedMet enc Tryz.prog Tryz.f10 (OpenSpec.ofChange Rows.fnExactOverSeriesSpec) false w args)
      (Rows.fnExactOverSeriesSpec.post enc Tryz.prog Tryz.f10 false true false false) :=
  LawOk.lifted (C := Tryz.checked) (X := fun w _ => laidMetH Tryz.prog laid_OverSeries w) (ts := [22, 22]) (rt := 4) own_p started lawOk_OverSeries (fun _ _ _ hh h => h.of_heap hh) (fun w _ h => tabl_OverSeries w h) (by kernel_rfl) Tryz.func10
    (by kernel_rfl) (by kernel_rfl) Tryz.underlying4 fit_OverSeries laidOut_p (by kernel_rfl) rfl (fun ds h => by match ds, h with | [_, _], _ => rfl)
    (ChangeSpec.witness_shaped (enc := enc) (C := Tryz.checked) (os := os) (X := fun w _ => laidMetH Tryz.prog laid_OverSeries w) false (World.doorLaid Tryz.prog 400 os) #[.slice none 0 0, .slice none 0 0] 8 rfl (World.shaped_of_RefB (by kernel_rfl) (by kernel_rfl)) (by kernel_rfl) (by kernel_rfl) (by kernel_rfl) (door_OverSeries os _))
set_option maxRecDepth 100000 in
theorem inPlace_OverSeries : Program.inPlace Tryz.prog 10 = Rows.fnExactOverSeriesRow.inPlace := by kernel_rfl
set_option maxRecDepth 100000 in
theorem unfollowed_OverSeries : Program.unfollowed Tryz.prog 10 = Rows.fnExactOverSeriesRow.unfollowed := by kernel_rfl
set_option maxRecDepth 100000 in
theorem recurses_OverSeries : Program.recurses Tryz.prog 10 = Rows.fnExactOverSeriesRow.recurses := by kernel_rfl
set_option maxRecDepth 100000 in
theorem named_OverSeries : Program.varsNamed Tryz.prog 10 = Rows.fnExactOverSeriesRow.named := by kernel_rfl
set_option maxRecDepth 100000 in
theorem closed_OverSeries : joinedFacts Tryz.prog 10 Tryz.f10 Rows.fnExactOverSeriesSpec Rows.fnExactOverSeriesRow = true := by
  unfold joinedFacts
  rw [laidOut_p, rowed_p, keys_p, heard_p, may_p, lift_p, make_p, inPlace_OverSeries, unfollowed_OverSeries, recurses_OverSeries, named_OverSeries]
  kernel_rfl
set_option maxRecDepth 100000 in
theorem row_OverSeries : Rows.FnExactOverSeriesSaid :=
  OpenClaim.holds_of_wide 10 Tryz.f10 rfl rfl rfl rfl rfl rfl rfl ⟨rfl, rfl, rfl, rfl, rfl⟩ rfl rfl rfl rfl rfl (by kernel_rfl) Tryz.func10 closed_OverSeries
    (of_decide_eq_true (by kernel_rfl)) (by unfold Func.isWrapper; first | (rw [if_pos (by decide +kernel)]; kernel_rfl) | (rw [if_neg (by decide +kernel)]; exact ⟨rfl, rfl⟩))
    (fun os started H enc _ => lifted_OverSeries os started H enc)
end
end Go.Proofs.YtfhpphmdpjebcaaGreatDoor
