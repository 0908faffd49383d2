/- A part of the proof that stands in YtfhpphmdpjebcaaGreatDoorMA3. -/
import Derived.Test.YtfhpphmdpjebcaaGreatDoorMA1

set_option linter.unusedVariables false
set_option linter.unusedSimpArgs false
set_option maxRecDepth 100000
namespace Go.Proofs.YtfhpphmdpjebcaaGreatDoor
open Go

section
open Go Go.ChangeShapes Go.WideShapes Go.ChangeAt Go.RowKit
abbrev laid_AddSeries : List (String × DataW Unit) := Rows.fnExactAddSeriesRow.laid
set_option maxRecDepth 100000 in
theorem door_AddSeries (os : Os) (args : Array Value) : laidMetH Tryz.prog laid_AddSeries ((World.doorLaid Tryz.prog 400 os).forCall (fun _ _ => 0) ⟨#[], args, []⟩).memory :=
  laidMetH_of_parts3 (fuel := 8) (laidMet_of_run' 8 (by kernel_rfl) (by kernel_rfl)) (by kernel_rfl) (by kernel_rfl)
theorem tabl_AddSeries (w : World) (h : laidMetH Tryz.prog laid_AddSeries w) : ∀ g, Program.globalNamed Tryz.prog tabName = some g → Lib.TabIs Tryz.prog w tabName .u64 tabNums := tab_p 2 (by kernel_rfl) (show List.drop 2 Rows.fnExactAddSeriesRow.laid = (tabName, Lib.tabData .u64 tabNums) :: List.drop 3 Rows.fnExactAddSeriesRow.laid by kernel_rfl) h
set_option maxRecDepth 100000 in
theorem fit_AddSeries : tysFit Tryz.prog [.cell (.sl 9 (.str)), .cell (.sl 9 (.str))] [22, 22] := ⟨fit_sl Tryz.underlying22 (by kernel_rfl) (by kernel_rfl) (of_decide_eq_true (by kernel_rfl)) (fit_str Tryz.underlying9), fit_sl Tryz.underlying22 (by kernel_rfl) (by kernel_rfl) (of_decide_eq_true (by kernel_rfl)) (fit_str Tryz.underlying9), trivial⟩
set_option maxRecDepth 100000 in
theorem lifted_AddSeries (os : Os) (started : os.Started) (H : Type) (enc : TypeId × Value → H) :
    ReturnsInHanded {} Tryz.checked os 7 .any (fun w args => (Rows.fnExactAddSeriesSpec.pre enc Tryz.prog Tryz.f7 [] false w args ∧ laidMetH Tryz.prog laid_AddSeries w) ∧ sizedMet enc Tryz.prog Tryz.f7 (OpenSpec.ofChange Rows.fnExactAddSeriesSpec) false w args)
      (Rows.fnExactAddSeriesSpec.post enc Tryz.prog Tryz.f7 false true false false) :=
  LawOk.lifted (C := Tryz.checked) (X := fun w _ => laidMetH Tryz.prog laid_AddSeries w) (ts := [22, 22]) (rt := 4) own_p started lawOk_AddSeries (fun _ _ _ hh h => h.of_heap hh) (fun w _ h => tabl_AddSeries w h) (by kernel_rfl) Tryz.func7
    (by kernel_rfl) (by kernel_rfl) Tryz.underlying4 fit_AddSeries laidOut_p (by kernel_rfl) rfl (fun ds h => by match ds, h with | [_, _], _ => rfl)
    (ChangeSpec.witness_shaped (enc := enc) (C := Tryz.checked) (os := os) (X := fun w _ => laidMetH Tryz.prog laid_AddSeries w) false (World.doorLaid Tryz.prog 400 os) #[.slice none 0 0, .slice none 0 0] 8 rfl (World.shaped_of_RefB (by kernel_rfl) (by kernel_rfl)) (by kernel_rfl) (by kernel_rfl) (by kernel_rfl) (door_AddSeries os _))
set_option maxRecDepth 100000 in
theorem inPlace_AddSeries : Program.inPlace Tryz.prog 7 = Rows.fnExactAddSeriesRow.inPlace := by kernel_rfl
set_option maxRecDepth 100000 in
theorem unfollowed_AddSeries : Program.unfollowed Tryz.prog 7 = Rows.fnExactAddSeriesRow.unfollowed := by kernel_rfl
set_option maxRecDepth 100000 in
theorem recurses_AddSeries : Program.recurses Tryz.prog 7 = Rows.fnExactAddSeriesRow.recurses := by kernel_rfl
set_option maxRecDepth 100000 in
theorem named_AddSeries : Program.varsNamed Tryz.prog 7 = Rows.fnExactAddSeriesRow.named := by kernel_rfl
set_option maxRecDepth 100000 in
theorem closed_AddSeries : joinedFacts Tryz.prog 7 Tryz.f7 Rows.fnExactAddSeriesSpec Rows.fnExactAddSeriesRow = true := by
  unfold joinedFacts
  rw [laidOut_p, rowed_p, keys_p, heard_p, may_p, lift_p, make_p, inPlace_AddSeries, unfollowed_AddSeries, recurses_AddSeries, named_AddSeries]
  kernel_rfl
set_option maxRecDepth 100000 in
theorem row_AddSeries : Rows.FnExactAddSeriesSaid :=
  OpenClaim.holds_of_wide 7 Tryz.f7 rfl rfl rfl rfl rfl rfl rfl ⟨rfl, rfl, rfl, rfl, rfl⟩ rfl rfl rfl rfl rfl (by kernel_rfl) Tryz.func7 closed_AddSeries
    (of_decide_eq_true (by kernel_rfl)) (by unfold Func.isWrapper; first | (rw [if_pos (by decide +kernel)]; kernel_rfl) | (rw [if_neg (by decide +kernel)]; exact ⟨rfl, rfl⟩))
    (fun os started H enc _ => lifted_AddSeries os started H enc)
end
end Go.Proofs.YtfhpphmdpjebcaaGreatDoor
