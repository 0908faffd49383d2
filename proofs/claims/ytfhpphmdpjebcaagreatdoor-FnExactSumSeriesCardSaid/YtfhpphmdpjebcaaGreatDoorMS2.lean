/- A part of the proof that stands in YtfhpphmdpjebcaaGreatDoorMS3. -/
import Derived.Test.YtfhpphmdpjebcaaGreatDoorMS1

set_option linter.unusedVariables false
set_option linter.unusedSimpArgs false
set_option maxRecDepth 100000
namespace Go.Proofs.YtfhpphmdpjebcaaGreatDoor
open Go

section
open Go Go.ChangeShapes Go.WideShapes Go.ChangeAt Go.RowKit
abbrev laid_SumSeries : List (String × DataW Unit) := Rows.fnExactSumSeriesRow.laid
set_option maxRecDepth 100000 in
theorem door_SumSeries (os : Os) (args : Array Value) : laidMetH Tryz.prog laid_SumSeries ((World.doorLaid Tryz.prog 400 os).forCall (fun _ _ => 0) ⟨#[], args, []⟩).memory :=
  laidMetH_of_parts3 (fuel := 8) (laidMet_of_run' 8 (by kernel_rfl) (by kernel_rfl)) (by kernel_rfl) (by kernel_rfl)
theorem tabl_SumSeries (w : World) (h : laidMetH Tryz.prog laid_SumSeries w) : ∀ g, Program.globalNamed Tryz.prog tabName = some g → Lib.TabIs Tryz.prog w tabName .u64 tabNums := tab_p 2 (by kernel_rfl) (show List.drop 2 Rows.fnExactSumSeriesRow.laid = (tabName, Lib.tabData .u64 tabNums) :: List.drop 3 Rows.fnExactSumSeriesRow.laid by kernel_rfl) h
set_option maxRecDepth 100000 in
theorem fit_SumSeries : tysFit Tryz.prog [.cell (.sl 9 (.str))] [22] := ⟨fit_sl Tryz.underlying22 (by kernel_rfl) (by kernel_rfl) (of_decide_eq_true (by kernel_rfl)) (fit_str Tryz.underlying9), trivial⟩
set_option maxRecDepth 100000 in
theorem lifted_SumSeries (os : Os) (started : os.Started) (H : Type) (enc : TypeId × Value → H) :
    ReturnsInHanded {} Tryz.checked os 9 .any (fun w args => (Rows.fnExactSumSeriesSpec.pre enc Tryz.prog Tryz.f9 [] false w args ∧ laidMetH Tryz.prog laid_SumSeries w) ∧ sizedMet enc Tryz.prog Tryz.f9 (OpenSpec.ofChange Rows.fnExactSumSeriesSpec) false w args)
      (Rows.fnExactSumSeriesSpec.post enc Tryz.prog Tryz.f9 false true false false) :=
  LawOk.lifted (C := Tryz.checked) (X := fun w _ => laidMetH Tryz.prog laid_SumSeries w) (ts := [22]) (rt := 4) own_p started lawOk_SumSeries (fun _ _ _ hh h => h.of_heap hh) (fun w _ h => tabl_SumSeries w h) (by kernel_rfl) Tryz.func9
    (by kernel_rfl) (by kernel_rfl) Tryz.underlying4 fit_SumSeries laidOut_p (by kernel_rfl) rfl (fun ds h => by match ds, h with | [_], _ => rfl)
    (ChangeSpec.witness_shaped (enc := enc) (C := Tryz.checked) (os := os) (X := fun w _ => laidMetH Tryz.prog laid_SumSeries w) false (World.doorLaid Tryz.prog 400 os) #[.slice none 0 0] 8 rfl (World.shaped_of_RefB (by kernel_rfl) (by kernel_rfl)) (by kernel_rfl) (by kernel_rfl) (by kernel_rfl) (door_SumSeries os _))
set_option maxRecDepth 100000 in
theorem inPlace_SumSeries : Program.inPlace Tryz.prog 9 = Rows.fnExactSumSeriesRow.inPlace := by kernel_rfl
set_option maxRecDepth 100000 in
theorem unfollowed_SumSeries : Program.unfollowed Tryz.prog 9 = Rows.fnExactSumSeriesRow.unfollowed := by kernel_rfl
set_option maxRecDepth 100000 in
theorem recurses_SumSeries : Program.recurses Tryz.prog 9 = Rows.fnExactSumSeriesRow.recurses := by kernel_rfl
set_option maxRecDepth 100000 in
theorem named_SumSeries : Program.varsNamed Tryz.prog 9 = Rows.fnExactSumSeriesRow.named := by kernel_rfl
set_option maxRecDepth 100000 in
theorem closed_SumSeries : joinedFacts Tryz.prog 9 Tryz.f9 Rows.fnExactSumSeriesSpec Rows.fnExactSumSeriesRow = true := by
  unfold joinedFacts
  rw [laidOut_p, rowed_p, keys_p, heard_p, may_p, lift_p, make_p, inPlace_SumSeries, unfollowed_SumSeries, recurses_SumSeries, named_SumSeries]
  kernel_rfl
set_option maxRecDepth 100000 in
theorem row_SumSeries : Rows.FnExactSumSeriesSaid :=
  OpenClaim.holds_of_wide 9 Tryz.f9 rfl rfl rfl rfl rfl rfl rfl ⟨rfl, rfl, rfl, rfl, rfl⟩ rfl rfl rfl rfl rfl (by kernel_rfl) Tryz.func9 closed_SumSeries
    (of_decide_eq_true (by kernel_rfl)) (by unfold Func.isWrapper; first | (rw [if_pos (by decide +kernel)]; kernel_rfl) | (rw [if_neg (by decide +kernel)]; exact ⟨rfl, rfl⟩))
    (fun os started H enc _ => lifted_SumSeries os started H enc)
end
end Go.Proofs.YtfhpphmdpjebcaaGreatDoor
