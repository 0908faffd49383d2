/- A part of the proof. -/
import Derived.Test.YtgfencjehdbjcaaGreatDoorMD1

set_option linter.unusedVariables false
set_option linter.unusedSimpArgs false
set_option maxRecDepth 100000
namespace Go.Proofs.YtgfencjehdbjcaaGreatDoor
open Go

section
open Go Go.ChangeShapes Go.WideShapes Go.ChangeAt Go.RowKit
abbrev laid_ImproveActs : List (String × DataW Unit) := Rows.fnExactImproveActsRow.laid
set_option maxRecDepth 100000 in
theorem door_ImproveActs (os : Os) (args : Array Value) : laidMetH Tryz.prog laid_ImproveActs ((World.doorLaid Tryz.prog 400 os).forCall (fun _ _ => 0) ⟨#[], args, []⟩).memory :=
 laidMetH_of_parts3 (fuel := 8) (laidMet_of_run' 8 (by kernel_rfl) (by kernel_rfl)) (by kernel_rfl) (by kernel_rfl)
theorem tabl_ImproveActs (w : World) (h : laidMetH Tryz.prog laid_ImproveActs w) : ∀ g, Program.globalNamed Tryz.prog tabName = some g → Lib.TabIs Tryz.prog w tabName .u64 tabNums := tab_p 2 (by kernel_rfl) (show List.drop 2 Rows.fnExactImproveActsRow.laid = (tabName, Lib.tabData .u64 tabNums) :: List.drop 3 Rows.fnExactImproveActsRow.laid by kernel_rfl) h
set_option maxRecDepth 100000 in
theorem fit_ImproveActs : tysFit Tryz.prog [.st [.int .i64, .str, .str, .str, .str], .cell (.sl 4 (.bool))] [23, 25] := ⟨⟨_, Tryz.underlying23, by kernel_rfl, rfl, by kernel_rfl, fit_int Tryz.underlying2, rfl, by kernel_rfl, fit_str Tryz.underlying9, rfl, by kernel_rfl, fit_str Tryz.underlying9, rfl, by kernel_rfl, fit_str Tryz.underlying9, rfl, by kernel_rfl, fit_str Tryz.underlying9, trivial⟩, fit_sl Tryz.underlying25 (by kernel_rfl) (by kernel_rfl) (of_decide_eq_true (by kernel_rfl)) (fit_bool Tryz.underlying4), trivial⟩
set_option maxRecDepth 100000 in
theorem lifted_ImproveActs (os : Os) (started : os.Started) (H : Type) (enc : TypeId × Value → H) :
  ReturnsInHanded {} Tryz.checked os 5 .any (fun w args => (Rows.fnExactImproveActsSpec.pre enc Tryz.prog Tryz.f5 [] false w args ∧ laidMetH Tryz.prog laid_ImproveActs w) ∧ sizedMet enc Tryz.prog Tryz.f5 (OpenSpec.ofChange Rows.fnExactImproveActsSpec) false w args)
   (Rows.fnExactImproveActsSpec.post enc Tryz.prog Tryz.f5 false true false false) :=
 LawOk.lifted (C := Tryz.checked) (X := fun w _ => laidMetH Tryz.prog laid_ImproveActs w) (ts := [23, 25]) (rt := 4) own_p started lawOk_ImproveActs (fun _ _ _ hh h => h.of_heap hh) (fun w _ h => tabl_ImproveActs w h) (by kernel_rfl) Tryz.func5
  (by kernel_rfl) (by kernel_rfl) Tryz.underlying4 fit_ImproveActs laidOut_p (by kernel_rfl) rfl (fun ds h => by match ds, h with | [_, _], _ => rfl)
  (ChangeSpec.witness_shaped (enc := enc) (C := Tryz.checked) (os := os) (X := fun w _ => laidMetH Tryz.prog laid_ImproveActs w) false (World.doorLaid Tryz.prog 400 os) #[.agg #[.int .i64 0, .string .empty, .string .empty, .string .empty, .string .empty], .slice none 0 0] 8 rfl (World.shaped_of_RefB (by kernel_rfl) (by kernel_rfl)) (by kernel_rfl) (by kernel_rfl) (by kernel_rfl) (door_ImproveActs os _))
set_option maxRecDepth 100000 in
theorem inPlace_ImproveActs : Program.inPlace Tryz.prog 5 = Rows.fnExactImproveActsRow.inPlace := by kernel_rfl
set_option maxRecDepth 100000 in
theorem unfollowed_ImproveActs : Program.unfollowed Tryz.prog 5 = Rows.fnExactImproveActsRow.unfollowed := by kernel_rfl
set_option maxRecDepth 100000 in
theorem recurses_ImproveActs : Program.recurses Tryz.prog 5 = Rows.fnExactImproveActsRow.recurses := by kernel_rfl
set_option maxRecDepth 100000 in
theorem named_ImproveActs : Program.varsNamed Tryz.prog 5 = Rows.fnExactImproveActsRow.named := by kernel_rfl
set_option maxRecDepth 100000 in
theorem closed_ImproveActs : joinedFacts Tryz.prog 5 Tryz.f5 Rows.fnExactImproveActsSpec Rows.fnExactImproveActsRow = true := by
 unfold joinedFacts
 rw [laidOut_p, rowed_p, keys_p, heard_p, may_p, lift_p, make_p, inPlace_ImproveActs, unfollowed_ImproveActs, recurses_ImproveActs, named_ImproveActs]
 kernel_rfl
set_option maxRecDepth 100000 in
theorem row_ImproveActs : Rows.FnExactImproveActsSaid :=
 OpenClaim.holds_of_wide 5 Tryz.f5 rfl rfl rfl rfl rfl rfl rfl ⟨rfl, rfl, rfl, rfl, rfl⟩ rfl rfl rfl rfl rfl (by kernel_rfl) Tryz.func5 closed_ImproveActs
  (of_decide_eq_true (by kernel_rfl)) (by unfold Func.isWrapper; first | (rw [if_pos (by decide +kernel)]; kernel_rfl) | (rw [if_neg (by decide +kernel)]; exact ⟨rfl, rfl⟩))
  (fun os started H enc _ => lifted_ImproveActs os started H enc)
end
end Go.Proofs.YtgfencjehdbjcaaGreatDoor
