/- A part of the proof that stands in YtompacaambjhkaaGreatDoorMU3. -/
import Derived.Test.YtompacaambjhkaaGreatDoorMU1

set_option linter.unusedVariables false
set_option linter.unusedSimpArgs false
set_option maxRecDepth 100000
namespace Go.Proofs.YtompacaambjhkaaGreatDoor
open Go

section
open Go Go.ChangeShapes Go.WideShapes Go.ChangeAt Go.RowKit
abbrev laid_TimesSeries : List (String × DataW Unit) := Rows.fnExactTimesSeriesRow.laid
set_option maxRecDepth 100000 in
theorem door_TimesSeries (os : Os) (args : Array Value) : laidMetH Tryz.prog laid_TimesSeries ((World.doorLaid Tryz.prog 400 os).forCall (fun _ _ => 0) ⟨#[], args, []⟩).memory :=
  laidMetH_of_parts3 (fuel := 8) (laidMet_of_run' 8 (by kernel_rfl) (by kernel_rfl)) (by kernel_rfl) (by kernel_rfl)
theorem tabl_TimesSeries (w : World) (h : laidMetH Tryz.prog laid_TimesSeries w) : ∀ g, Program.globalNamed Tryz.prog tabName = some g → Lib.TabIs Tryz.prog w tabName .u64 tabNums := tab_p 2 (by kernel_rfl) (show List.drop 2 Rows.fnExactTimesSeriesRow.laid = (tabName, Lib.tabData .u64 tabNums) :: List.drop 3 Rows.fnExactTimesSeriesRow.laid by kernel_rfl) h
set_option maxRecDepth 100000 in
theorem fit_TimesSeries : tysFit Tryz.prog [.cell (.sl 9 (.str)), .cell (.sl 9 (.str))] [22, 22] := ⟨fit_sl Tryz.underlying22 (by kernel_rfl) (by kernel_rfl) (of_decide_eq_true (by kernel_rfl)) (fit_str Tryz.underlying9), fit_sl Tryz.underlying22 (by kernel_rfl) (by kernel_rfl) (of_decide_eq_true (by kernel_rfl)) (fit_str Tryz.underlying9), trivial⟩
set_option maxRecDepth 100000 in
theorem lifted_TimesSeries (os : Os) (started : os.Started) (H : Type) (enc : TypeId × Value → H) :
    ReturnsInHanded {} Tryz.checked os 3 .any (fun w args => (Rows.fnExactTimesSeriesSpec.pre enc Tryz.prog Tryz.f3 [] false w args ∧ laidMetH Tryz.prog laid_TimesSeries w) ∧ sizedMet enc Tryz.prog Tryz.f3 (OpenSpec.ofChange Rows.fnExactTimesSeriesSpec) false w args)
      (Rows.fnExactTimesSeriesSpec.post enc Tryz.prog Tryz.f3 false true false false) :=
  LawOk.lifted (C := Tryz.checked) (X := fun w _ => laidMetH Tryz.prog laid_TimesSeries w) (ts := [22, 22]) (rt := 4) own_p started lawOk_TimesSeries (fun _ _ _ hh h => h.of_heap hh) (fun w _ h => tabl_TimesSeries w h) (by kernel_rfl) Tryz.func3
    (by kernel_rfl) (by kernel_rfl) Tryz.underlying4 fit_TimesSeries laidOut_p (by kernel_rfl) rfl (fun ds h => by match ds, h with | [_, _], _ => rfl)
    (ChangeSpec.witness_shaped (enc := enc) (C := Tryz.checked) (os := os) (X := fun w _ => laidMetH Tryz.prog laid_TimesSeries w) false (World.doorLaid Tryz.prog 400 os) #[.slice none 0 0, .slice none 0 0] 8 rfl (World.shaped_of_RefB (by kernel_rfl) (by kernel_rfl)) (by kernel_rfl) (by kernel_rfl) (by kernel_rfl) (door_TimesSeries os _))
set_option maxRecDepth 100000 in
theorem inPlace_TimesSeries : Program.inPlace Tryz.prog 3 = Rows.fnExactTimesSeriesRow.inPlace := by kernel_rfl
set_option maxRecDepth 100000 in
theorem unfollowed_TimesSeries : Program.unfollowed Tryz.prog 3 = Rows.fnExactTimesSeriesRow.unfollowed := by kernel_rfl
set_option maxRecDepth 100000 in
theorem recurses_TimesSeries : Program.recurses Tryz.prog 3 = Rows.fnExactTimesSeriesRow.recurses := by kernel_rfl
set_option maxRecDepth 100000 in
theorem named_TimesSeries : Program.varsNamed Tryz.prog 3 = Rows.fnExactTimesSeriesRow.named := by kernel_rfl
set_option maxRecDepth 100000 in
theorem closed_TimesSeries : joinedFacts Tryz.prog 3 Tryz.f3 Rows.fnExactTimesSeriesSpec Rows.fnExactTimesSeriesRow = true := by
  unfold joinedFacts
  rw [laidOut_p, rowed_p, keys_p, heard_p, may_p, lift_p, make_p, inPlace_TimesSeries, unfollowed_TimesSeries, recurses_TimesSeries, named_TimesSeries]
  kernel_rfl
set_option maxRecDepth 100000 in
theorem row_TimesSeries : Rows.FnExactTimesSeriesSaid :=
  OpenClaim.holds_of_wide 3 Tryz.f3 rfl rfl rfl rfl rfl rfl rfl ⟨rfl, rfl, rfl, rfl, rfl⟩ rfl rfl rfl rfl rfl (by kernel_rfl) Tryz.func3 closed_TimesSeries
    (of_decide_eq_true (by kernel_rfl)) (by unfold Func.isWrapper; first | (rw [if_pos (by decide +kernel)]; kernel_rfl) | (rw [if_neg (by decide +kernel)]; exact ⟨rfl, rfl⟩))
    (fun os started H enc _ => lifted_TimesSeries os started H enc)
end
end Go.Proofs.YtompacaambjhkaaGreatDoor
