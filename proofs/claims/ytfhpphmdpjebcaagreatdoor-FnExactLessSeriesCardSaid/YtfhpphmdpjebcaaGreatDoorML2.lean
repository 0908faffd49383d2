/- A part of the proof that stands in YtfhpphmdpjebcaaGreatDoorML3. -/
import Derived.Test.YtfhpphmdpjebcaaGreatDoorML1

set_option linter.unusedVariables false
set_option linter.unusedSimpArgs false
set_option maxRecDepth 100000
namespace Go.Proofs.YtfhpphmdpjebcaaGreatDoor
open Go

section
open Go Go.ChangeShapes Go.WideShapes Go.ChangeAt Go.RowKit
abbrev laid_LessSeries : List (String × DataW Unit) := Rows.fnExactLessSeriesRow.laid
set_option maxRecDepth 100000 in
theorem door_LessSeries (os : Os) (args : Array Value) : laidMetH Tryz.prog laid_LessSeries ((World.doorLaid Tryz.prog 400 os).forCall (fun _ _ => 0) ⟨#[], args, []⟩).memory :=
  laidMetH_of_parts3 (fuel := 8) (laidMet_of_run' 8 (by kernel_rfl) (by kernel_rfl)) (by kernel_rfl) (by kernel_rfl)
theorem tabl_LessSeries (w : World) (h : laidMetH Tryz.prog laid_LessSeries w) : ∀ g, Program.globalNamed Tryz.prog tabName = some g → Lib.TabIs Tryz.prog w tabName .u64 tabNums := tab_p 2 (by kernel_rfl) (show List.drop 2 Rows.fnExactLessSeriesRow.laid = (tabName, Lib.tabData .u64 tabNums) :: List.drop 3 Rows.fnExactLessSeriesRow.laid by kernel_rfl) h
set_option maxRecDepth 100000 in
theorem fit_LessSeries : tysFit Tryz.prog [.cell (.sl 9 (.str)), .cell (.sl 9 (.str))] [22, 22] := ⟨fit_sl Tryz.underlying22 (by kernel_rfl) (by kernel_rfl) (of_decide_eq_true (by kernel_rfl)) (fit_str Tryz.underlying9), fit_sl Tryz.underlying22 (by kernel_rfl) (by kernel_rfl) (of_decide_eq_true (by kernel_rfl)) (fit_str Tryz.underlying9), trivial⟩
set_option maxRecDepth 100000 in
theorem lifted_LessSeries (os : Os) (started : os.Started) (H : Type) (enc : TypeId × Value → H) :
    ReturnsInHanded {} Tryz.checked os 8 .any (fun w args => (Rows.fnExactLessSeriesSpec.pre enc Tryz.prog Tryz.f8 [] false w args ∧ laidMetH Tryz.prog laid_LessSeries w) ∧ sizedMet enc Tryz.prog Tryz.f8 (OpenSpec.ofChange Rows.fnExactLessSeriesSpec) false w args)
      (Rows.fnExactLessSeriesSpec.post enc Tryz.prog Tryz.f8 false true false false) :=
  LawOk.lifted (C := Tryz.checked) (X := fun w _ => laidMetH Tryz.prog laid_LessSeries w) (ts := [22, 22]) (rt := 4) own_p started lawOk_LessSeries (fun _ _ _ hh h => h.of_heap hh) (fun w _ h => tabl_LessSeries w h) (by kernel_rfl) Tryz.func8
    (by kernel_rfl) (by kernel_rfl) Tryz.underlying4 fit_LessSeries laidOut_p (by kernel_rfl) rfl (fun ds h => by match ds, h with | [_, _], _ => rfl)
    (ChangeSpec.witness_shaped (enc := enc) (C := Tryz.checked) (os := os) (X := fun w _ => laidMetH Tryz.prog laid_LessSeries w) false (World.doorLaid Tryz.prog 400 os) #[.slice none 0 0, .slice none 0 0] 8 rfl (World.shaped_of_RefB (by kernel_rfl) (by kernel_rfl)) (by kernel_rfl) (by kernel_rfl) (by kernel_rfl) (door_LessSeries os _))
set_option maxRecDepth 100000 in
theorem inPlace_LessSeries : Program.inPlace Tryz.prog 8 = Rows.fnExactLessSeriesRow.inPlace := by kernel_rfl
set_option maxRecDepth 100000 in
theorem unfollowed_LessSeries : Program.unfollowed Tryz.prog 8 = Rows.fnExactLessSeriesRow.unfollowed := by kernel_rfl
set_option maxRecDepth 100000 in
theorem recurses_LessSeries : Program.recurses Tryz.prog 8 = Rows.fnExactLessSeriesRow.recurses := by kernel_rfl
set_option maxRecDepth 100000 in
theorem named_LessSeries : Program.varsNamed Tryz.prog 8 = Rows.fnExactLessSeriesRow.named := by kernel_rfl
set_option maxRecDepth 100000 in
theorem closed_LessSeries : joinedFacts Tryz.prog 8 Tryz.f8 Rows.fnExactLessSeriesSpec Rows.fnExactLessSeriesRow = true := by
  unfold joinedFacts
  rw [laidOut_p, rowed_p, keys_p, heard_p, may_p, lift_p, make_p, inPlace_LessSeries, unfollowed_LessSeries, recurses_LessSeries, named_LessSeries]
  kernel_rfl
set_option maxRecDepth 100000 in
theorem row_LessSeries : Rows.FnExactLessSeriesSaid :=
  OpenClaim.holds_of_wide 8 Tryz.f8 rfl rfl rfl rfl rfl rfl rfl ⟨rfl, rfl, rfl, rfl, rfl⟩ rfl rfl rfl rfl rfl (by kernel_rfl) Tryz.func8 closed_LessSeries
    (of_decide_eq_true (by kernel_rfl)) (by unfold Func.isWrapper; first | (rw [if_pos (by decide +kernel)]; kernel_rfl) | (rw [if_neg (by decide +kernel)]; exact ⟨rfl, rfl⟩))
    (fun os started H enc _ => lifted_LessSeries os started H enc)
end
end Go.Proofs.YtfhpphmdpjebcaaGreatDoor
