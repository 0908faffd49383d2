/- A part of the proof that stands in YtfhpphmdpjebcaaGreatDoorMW3. -/
import Derived.Test.YtfhpphmdpjebcaaGreatDoorMW1

set_option linter.unusedVariables false
set_option linter.unusedSimpArgs false
set_option maxRecDepth 100000
namespace Go.Proofs.YtfhpphmdpjebcaaGreatDoor
open Go

section
open Go Go.ChangeShapes Go.WideShapes Go.ChangeAt Go.RowKit
abbrev laid_ShiftSeries : List (String × DataW Unit) := Rows.fnExactShiftSeriesRow.laid
set_option maxRecDepth 100000 in
theorem door_ShiftSeries (os : Os) (args : Array Value) : laidMetH Tryz.prog laid_ShiftSeries ((World.doorLaid Tryz.prog 400 os).forCall (fun _ _ => 0) ⟨#[], args, []⟩).memory :=
  laidMetH_of_parts3 (fuel := 8) (laidMet_of_run' 8 (by kernel_rfl) (by kernel_rfl)) (by kernel_rfl) (by kernel_rfl)
theorem tabl_ShiftSeries (w : World) (h : laidMetH Tryz.prog laid_ShiftSeries w) : ∀ g, Program.globalNamed Tryz.prog tabName = some g → Lib.TabIs Tryz.prog w tabName .u64 tabNums := tab_p 2 (by kernel_rfl) (show List.drop 2 Rows.fnExactShiftSeriesRow.laid = (tabName, Lib.tabData .u64 tabNums) :: List.drop 3 Rows.fnExactShiftSeriesRow.laid by kernel_rfl) h
set_option maxRecDepth 100000 in
theorem fit_ShiftSeries : tysFit Tryz.prog [.cell (.sl 9 (.str)), .cell (.int .i64)] [22, 2] := ⟨fit_sl Tryz.underlying22 (by kernel_rfl) (by kernel_rfl) (of_decide_eq_true (by kernel_rfl)) (fit_str Tryz.underlying9), fit_int Tryz.underlying2, trivial⟩
set_option maxRecDepth 100000 in
theorem lifted_ShiftSeries (os : Os) (started : os.Started) (H : Type) (enc : TypeId × Value → H) :
    ReturnsInHanded {} Tryz.checked os 4 .any (fun w args => (Rows.fnExactShiftSeriesSpec.pre enc Tryz.prog Tryz.f4 [] false w args ∧ laidMetH Tryz.prog laid_ShiftSeries w) ∧ sizedMet enc Tryz.prog Tryz.f4 (OpenSpec.ofChange Rows.fnExactShiftSeriesSpec) false w args)
      (Rows.fnExactShiftSeriesSpec.post enc Tryz.prog Tryz.f4 false true false false) :=
  LawOk.lifted (C := Tryz.checked) (X := fun w _ => laidMetH Tryz.prog laid_ShiftSeries w) (ts := [22, 2]) (rt := 4) own_p started lawOk_ShiftSeries (fun _ _ _ hh h => h.of_heap hh) (fun w _ h => tabl_ShiftSeries w h) (by kernel_rfl) Tryz.func4
    (by kernel_rfl) (by kernel_rfl) Tryz.underlying4 fit_ShiftSeries laidOut_p (by kernel_rfl) rfl (fun ds h => by match ds, h with | [_, _], _ => rfl)
    (ChangeSpec.witness_shaped (enc := enc) (C := Tryz.checked) (os := os) (X := fun w _ => laidMetH Tryz.prog laid_ShiftSeries w) false (World.doorLaid Tryz.prog 400 os) #[.slice none 0 0, .int .i64 0] 8 rfl (World.shaped_of_RefB (by kernel_rfl) (by kernel_rfl)) (by kernel_rfl) (by kernel_rfl) (by kernel_rfl) (door_ShiftSeries os _))
set_option maxRecDepth 100000 in
theorem inPlace_ShiftSeries : Program.inPlace Tryz.prog 4 = Rows.fnExactShiftSeriesRow.inPlace := by kernel_rfl
set_option maxRecDepth 100000 in
theorem unfollowed_ShiftSeries : Program.unfollowed Tryz.prog 4 = Rows.fnExactShiftSeriesRow.unfollowed := by kernel_rfl
set_option maxRecDepth 100000 in
theorem recurses_ShiftSeries : Program.recurses Tryz.prog 4 = Rows.fnExactShiftSeriesRow.recurses := by kernel_rfl
set_option maxRecDepth 100000 in
theorem named_ShiftSeries : Program.varsNamed Tryz.prog 4 = Rows.fnExactShiftSeriesRow.named := by kernel_rfl
set_option maxRecDepth 100000 in
theorem closed_ShiftSeries : joinedFacts Tryz.prog 4 Tryz.f4 Rows.fnExactShiftSeriesSpec Rows.fnExactShiftSeriesRow = true := by
  unfold joinedFacts
  rw [laidOut_p, rowed_p, keys_p, heard_p, may_p, lift_p, make_p, inPlace_ShiftSeries, unfollowed_ShiftSeries, recurses_ShiftSeries, named_ShiftSeries]
  kernel_rfl
set_option maxRecDepth 100000 in
theorem row_ShiftSeries : Rows.FnExactShiftSeriesSaid :=
  OpenClaim.holds_of_wide 4 Tryz.f4 rfl rfl rfl rfl rfl rfl rfl ⟨rfl, rfl, rfl, rfl, rfl⟩ rfl rfl rfl rfl rfl (by kernel_rfl) Tryz.func4 closed_ShiftSeries
    (of_decide_eq_true (by kernel_rfl)) (by unfold Func.isWrapper; first | (rw [if_pos (by decide +kernel)]; kernel_rfl) | (rw [if_neg (by decide +kernel)]; exact ⟨rfl, rfl⟩))
    (fun os started H enc _ => lifted_ShiftSeries os started H enc)
end
end Go.Proofs.YtfhpphmdpjebcaaGreatDoor
