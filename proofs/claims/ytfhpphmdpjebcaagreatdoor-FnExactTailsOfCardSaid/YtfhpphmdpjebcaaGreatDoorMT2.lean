/- A part of the proof that stands in YtfhpphmdpjebcaaGreatDoorMT3. -/
import Derived.Test.YtfhpphmdpjebcaaGreatDoorMT1

set_option linter.unusedVariables false
set_option linter.unusedSimpArgs false
set_option maxRecDepth 100000
namespace Go.Proofs.YtfhpphmdpjebcaaGreatDoor
open Go

section
open Go Go.ChangeShapes Go.WideShapes Go.ChangeAt Go.RowKit
abbrev laid_TailsOf : List (String × DataW Unit) := Rows.fnExactTailsOfRow.laid
set_option maxRecDepth 100000 in
theorem door_TailsOf (os : Os) (args : Array Value) : laidMetH Tryz.prog laid_TailsOf ((World.doorLaid Tryz.prog 400 os).forCall (fun _ _ => 0) ⟨#[], args, []⟩).memory :=
  laidMetH_of_parts3 (fuel := 8) (laidMet_of_run' 8 (by kernel_rfl) (by kernel_rfl)) (by kernel_rfl) (by kernel_rfl)
theorem tabl_TailsOf (w : World) (h : laidMetH Tryz.prog laid_TailsOf w) : ∀ g, Program.globalNamed Tryz.prog tabName = some g → Lib.TabIs Tryz.prog w tabName .u64 tabNums := tab_p 2 (by kernel_rfl) (show List.drop 2 Rows.fnExactTailsOfRow.laid = (tabName, Lib.tabData .u64 tabNums) :: List.drop 3 Rows.fnExactTailsOfRow.laid by kernel_rfl) h
set_option maxRecDepth 100000 in
theorem fit_TailsOf : tysFit Tryz.prog [.cell (.sl 9 (.str))] [22] := ⟨fit_sl Tryz.underlying22 (by kernel_rfl) (by kernel_rfl) (of_decide_eq_true (by kernel_rfl)) (fit_str Tryz.underlying9), trivial⟩
set_option maxRecDepth 100000 in
theorem lifted_TailsOf (os : Os) (started : os.Started) (H : Type) (enc : TypeId × Value → H) :
    ReturnsInHanded {} Tryz.checked os 13 .any (fun w args => (Rows.fnExactTailsOfSpec.pre enc Tryz.prog Tryz.f13 [] false w args ∧ laidMetH Tryz.prog laid_TailsOf w) ∧ sizedMet enc Tryz.prog Tryz.f13 (OpenSpec.ofChange Rows.fnExactTailsOfSpec) false w args)
      (Rows.fnExactTailsOfSpec.post enc Tryz.prog Tryz.f13 false true false false) :=
  LawOk.lifted (C := Tryz.checked) (X := fun w _ => laidMetH Tryz.prog laid_TailsOf w) (ts := [22]) (rt := 4) own_p started lawOk_TailsOf (fun _ _ _ hh h => h.of_heap hh) (fun w _ h => tabl_TailsOf w h) (by kernel_rfl) Tryz.func13
    (by kernel_rfl) (by kernel_rfl) Tryz.underlying4 fit_TailsOf laidOut_p (by kernel_rfl) rfl (fun ds h => by match ds, h with | [_], _ => rfl)
    (ChangeSpec.witness_shaped (enc := enc) (C := Tryz.checked) (os := os) (X := fun w _ => laidMetH Tryz.prog laid_TailsOf w) false (World.doorLaid Tryz.prog 400 os) #[.slice none 0 0] 8 rfl (World.shaped_of_RefB (by kernel_rfl) (by kernel_rfl)) (by kernel_rfl) (by kernel_rfl) (by kernel_rfl) (door_TailsOf os _))
set_option maxRecDepth 100000 in
theorem inPlace_TailsOf : Program.inPlace Tryz.prog 13 = Rows.fnExactTailsOfRow.inPlace := by kernel_rfl
set_option maxRecDepth 100000 in
theorem unfollowed_TailsOf : Program.unfollowed Tryz.prog 13 = Rows.fnExactTailsOfRow.unfollowed := by kernel_rfl
set_option maxRecDepth 100000 in
theorem recurses_TailsOf : Program.recurses Tryz.prog 13 = Rows.fnExactTailsOfRow.recurses := by kernel_rfl
set_option maxRecDepth 100000 in
theorem named_TailsOf : Program.varsNamed Tryz.prog 13 = Rows.fnExactTailsOfRow.named := by kernel_rfl
set_option maxRecDepth 100000 in
theorem closed_TailsOf : joinedFacts Tryz.prog 13 Tryz.f13 Rows.fnExactTailsOfSpec Rows.fnExactTailsOfRow = true := by
  unfold joinedFacts
  rw [laidOut_p, rowed_p, keys_p, heard_p, may_p, lift_p, make_p, inPlace_TailsOf, unfollowed_TailsOf, recurses_TailsOf, named_TailsOf]
  kernel_rfl
set_option maxRecDepth 100000 in
theorem row_TailsOf : Rows.FnExactTailsOfSaid :=
  OpenClaim.holds_of_wide 13 Tryz.f13 rfl rfl rfl rfl rfl rfl rfl ⟨rfl, rfl, rfl, rfl, rfl⟩ rfl rfl rfl rfl rfl (by kernel_rfl) Tryz.func13 closed_TailsOf
    (of_decide_eq_true (by kernel_rfl)) (by unfold Func.isWrapper; first | (rw [if_pos (by decide +kernel)]; kernel_rfl) | (rw [if_neg (by decide +kernel)]; exact ⟨rfl, rfl⟩))
    (fun os started H enc _ => lifted_TailsOf os started H enc)
end
end Go.Proofs.YtfhpphmdpjebcaaGreatDoor
