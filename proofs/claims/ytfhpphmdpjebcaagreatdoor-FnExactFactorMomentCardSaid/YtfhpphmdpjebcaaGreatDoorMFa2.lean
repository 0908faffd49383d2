/- Part 15 of 16 of the proof that stands in YtfhpphmdpjebcaaGreatDoorMFa3. -/
import Derived.Test.YtfhpphmdpjebcaaGreatDoorMFa1

set_option linter.unusedVariables false
set_option linter.unusedSimpArgs false

/- FnExactFactorMoment: its row. -/
set_option linter.unusedSimpArgs false
set_option linter.unusedVariables false
namespace Go.Proofs.YtfhpphmdpjebcaaGreatDoor
open Go Go.ChangeShapes Go.WideShapes Go.ChangeAt Go.RowKit

abbrev laid_FactorMoment : List (String × DataW Unit) := Rows.fnExactFactorMomentRow.laid
set_option maxRecDepth 100000 in
/-- The door's own heap meets the condition: three closed facts. -/
theorem door_FactorMoment (os : Os) (args : Array Value) : laidMetH Tryz.prog laid_FactorMoment ((World.doorLaid Tryz.prog 400 os).forCall (fun _ _ => 0) ⟨#[], args, []⟩).memory :=
  laidMetH_of_parts3 (fuel := 8) (laidMet_of_run' 8 (by kernel_rfl) (by kernel_rfl)) (by kernel_rfl) (by kernel_rfl)
theorem tabl_FactorMoment (w : World) (h : laidMetH Tryz.prog laid_FactorMoment w) : ∀ g, Program.globalNamed Tryz.prog tabName = some g → Lib.TabIs Tryz.prog w tabName .u64 tabNums := tab_p 2 (by kernel_rfl) (show List.drop 2 Rows.fnExactFactorMomentRow.laid = (tabName, Lib.tabData .u64 tabNums) :: List.drop 3 Rows.fnExactFactorMomentRow.laid by kernel_rfl) h
set_option maxRecDepth 100000 in
theorem fit_FactorMoment : tysFit Tryz.prog [.cell (.sl 9 (.str)), .cell (.int .i64)] [22, 2] := ⟨fit_sl Tryz.underlying22 (by kernel_rfl) (by kernel_rfl) (of_decide_eq_true (by kernel_rfl)) (fit_str Tryz.underlying9), fit_int Tryz.underlying2, trivial⟩
set_option maxRecDepth 100000 in
theorem lifted_FactorMoment (os : Os) (started : os.Started) (H : Type) (enc : TypeId × Value → H) :
    ReturnsInHanded {} Tryz.checked os 6 .any (fun w args => (Rows.fnExactFactorMomentSpec.pre enc Tryz.prog Tryz.f6 [] false w args ∧ laidMetH Tryz.prog laid_FactorMoment w) ∧ sizedMet enc Tryz.prog Tryz.f6 (OpenSpec.ofChange Rows.fnExactFactorMomentSpec) false w args)
      (Rows.fnExactFactorMomentSpec.post enc Tryz.prog Tryz.f6 false true false false) :=
  LawOk.lifted (C := Tryz.checked) (X := fun w _ => laidMetH Tryz.prog laid_FactorMoment w) (ts := [22, 2]) (rt := 4) own_p started lawOk_FactorMoment (fun _ _ _ hh h => h.of_heap hh) (fun w _ h => tabl_FactorMoment w h) (by kernel_rfl) Tryz.func6
    (by kernel_rfl) (by kernel_rfl) Tryz.underlying4 fit_FactorMoment laidOut_p (by kernel_rfl) rfl (fun ds h => by match ds, h with | [_, _], _ => rfl)
    (ChangeSpec.witness_shaped (enc := enc) (C := Tryz.checked) (os := os) (X := fun w _ => laidMetH Tryz.prog laid_FactorMoment w) false (World.doorLaid Tryz.prog 400 os) #[.slice none 0 0, .int .i64 0] 8 rfl (World.shaped_of_RefB (by kernel_rfl) (by kernel_rfl)) (by kernel_rfl) (by kernel_rfl) (by kernel_rfl) (door_FactorMoment os _))
set_option maxRecDepth 100000 in
theorem inPlace_FactorMoment : Program.inPlace Tryz.prog 6 = Rows.fnExactFactorMomentRow.inPlace := by kernel_rfl
set_option maxRecDepth 100000 in
theorem unfollowed_FactorMoment : Program.unfollowed Tryz.prog 6 = Rows.fnExactFactorMomentRow.unfollowed := by kernel_rfl
set_option maxRecDepth 100000 in
theorem recurses_FactorMoment : Program.recurses Tryz.prog 6 = Rows.fnExactFactorMomentRow.recurses := by kernel_rfl
set_option maxRecDepth 100000 in
theorem named_FactorMoment : Program.varsNamed Tryz.prog 6 = Rows.fnExactFactorMomentRow.named := by kernel_rfl
set_option maxRecDepth 100000 in
theorem closed_FactorMoment : joinedFacts Tryz.prog 6 Tryz.f6 Rows.fnExactFactorMomentSpec Rows.fnExactFactorMomentRow = true := by
  unfold joinedFacts
  rw [laidOut_p, rowed_p, keys_p, heard_p, may_p, lift_p, make_p, inPlace_FactorMoment, unfollowed_FactorMoment, recurses_FactorMoment, named_FactorMoment]
  kernel_rfl
set_option maxRecDepth 100000 in
theorem row_FactorMoment : Rows.FnExactFactorMomentSaid :=
  OpenClaim.holds_of_wide 6 Tryz.f6 rfl rfl rfl rfl rfl rfl rfl ⟨rfl, rfl, rfl, rfl, rfl⟩ rfl rfl rfl rfl rfl (by kernel_rfl) Tryz.func6 closed_FactorMoment
    (of_decide_eq_true (by kernel_rfl)) (by unfold Func.isWrapper; first | (rw [if_pos (by decide +kernel)]; kernel_rfl) | (rw [if_neg (by decide +kernel)]; exact ⟨rfl, rfl⟩))
    (fun os started H enc _ => lifted_FactorMoment os started H enc)
end Go.Proofs.YtfhpphmdpjebcaaGreatDoor
