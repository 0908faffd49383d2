/- A part of the proof that stands in YtfhpphmdpjebcaaGreatDoorMD3. -/
import Derived.Test.YtfhpphmdpjebcaaGreatDoorMD1

set_option linter.unusedVariables false
set_option linter.unusedSimpArgs false
set_option maxRecDepth 100000
namespace Go.Proofs.YtfhpphmdpjebcaaGreatDoor
open Go

section
open Go Go.ChangeShapes Go.WideShapes Go.ChangeAt Go.RowKit
abbrev laid_DeriveSeries : List (String × DataW Unit) := Rows.fnExactDeriveSeriesRow.laid
set_option maxRecDepth 100000 in
theorem door_DeriveSeries (os : Os) (args : Array Value) : laidMetH Tryz.prog laid_DeriveSeries ((World.doorLaid Tryz.prog 400 os).forCall (fun _ _ => 0) ⟨#[], args, []⟩).memory :=
  laidMetH_of_parts3 (fuel := 8) (laidMet_of_run' 8 (by kernel_rfl) (by kernel_rfl)) (by kernel_rfl) (by kernel_rfl)
theorem tabl_DeriveSeries (w : World) (h : laidMetH Tryz.prog laid_DeriveSeries w) : ∀ g, Program.globalNamed Tryz.prog tabName = some g → Lib.TabIs Tryz.prog w tabName .u64 tabNums := tab_p 2 (by kernel_rfl) (show List.drop 2 Rows.fnExactDeriveSeriesRow.laid = (tabName, Lib.tabData .u64 tabNums) :: List.drop 3 Rows.fnExactDeriveSeriesRow.laid by kernel_rfl) h
set_option maxRecDepth 100000 in
theorem fit_DeriveSeries : tysFit Tryz.prog [.cell (.sl 9 (.str))] [22] := ⟨fit_sl Tryz.underlying22 (by kernel_rfl) (by kernel_rfl) (of_decide_eq_true (by kernel_rfl)) (fit_str Tryz.underlying9), trivial⟩
set_option maxRecDepth 100000 in
theorem lifted_DeriveSeries (os : Os) (started : os.Started) (H : Type) (enc : TypeId × Value → H) :
    ReturnsInHanded {} Tryz.checked os 3 .any (fun w args => (Rows.fnExactDeriveSeriesSpec.pre enc Tryz.prog Tryz.f3 [] false w args ∧ laidMetH Tryz.prog laid_DeriveSeries w) ∧ sizedMet enc Tryz.prog Tryz.f3 (OpenSpec.ofChange Rows.fnExactDeriveSeriesSpec) false w args)
      (Rows.fnExactDeriveSeriesSpec.post enc Tryz.prog Tryz.f3 false true false false) :=
  LawOk.lifted (C := Tryz.checked) (X := fun w _ => laidMetH Tryz.prog laid_DeriveSeries w) (ts := [22]) (rt := 4) own_p started lawOk_DeriveSeries (fun _ _ _ hh h => h.of_heap hh) (fun w _ h => tabl_DeriveSeries w h) (by kernel_rfl) Tryz.func3
    (by kernel_rfl) (by kernel_rfl) Tryz.underlying4 fit_DeriveSeries laidOut_p (by kernel_rfl) rfl (fun ds h => by match ds, h with | [_], _ => rfl)
    (ChangeSpec.witness_shaped (enc := enc) (C := Tryz.checked) (os := os) (X := fun w _ => laidMetH Tryz.prog laid_DeriveSeries w) false (World.doorLaid Tryz.prog 400 os) #[.slice none 0 0] 8 rfl (World.shaped_of_RefB (by kernel_rfl) (by kernel_rfl)) (by kernel_rfl) (by kernel_rfl) (by kernel_rfl) (door_DeriveSeries os _))
set_option maxRecDepth 100000 in
theorem inPlace_DeriveSeries : Program.inPlace Tryz.prog 3 = Rows.fnExactDeriveSeriesRow.inPlace := by kernel_rfl
set_option maxRecDepth 100000 in
theorem unfollowed_DeriveSeries : Program.unfollowed Tryz.prog 3 = Rows.fnExactDeriveSeriesRow.unfollowed := by kernel_rfl
set_option maxRecDepth 100000 in
theorem recurses_DeriveSeries : Program.recurses Tryz.prog 3 = Rows.fnExactDeriveSeriesRow.recurses := by kernel_rfl
set_option maxRecDepth 100000 in
theorem named_DeriveSeries : Program.varsNamed Tryz.prog 3 = Rows.fnExactDeriveSeriesRow.named := by kernel_rfl
set_option maxRecDepth 100000 in
theorem closed_DeriveSeries : joinedFacts Tryz.prog 3 Tryz.f3 Rows.fnExactDeriveSeriesSpec Rows.fnExactDeriveSeriesRow = true := by
  unfold joinedFacts
  rw [laidOut_p, rowed_p, keys_p, heard_p, may_p, lift_p, make_p, inPlace_DeriveSeries, unfollowed_DeriveSeries, recurses_DeriveSeries, named_DeriveSeries]
  kernel_rfl
set_option maxRecDepth 100000 in
theorem row_DeriveSeries : Rows.FnExactDeriveSeriesSaid :=
  OpenClaim.holds_of_wide 3 Tryz.f3 rfl rfl rfl rfl rfl rfl rfl ⟨rfl, rfl, rfl, rfl, rfl⟩ rfl rfl rfl rfl rfl (by kernel_rfl) Tryz.func3 closed_DeriveSeries
    (of_decide_eq_true (by kernel_rfl)) (by unfold Func.isWrapper; first | (rw [if_pos (by decide +kernel)]; kernel_rfl) | (rw [if_neg (by decide +kernel)]; exact ⟨rfl, rfl⟩))
    (fun os started H enc _ => lifted_DeriveSeries os started H enc)
end
end Go.Proofs.YtfhpphmdpjebcaaGreatDoor
