/- A part of the proof that stands in YtmlbjakkojbdlaaGreatDoorMB3. -/
import Derived.Test.YtmlbjakkojbdlaaGreatDoorMB1

set_option linter.unusedVariables false
set_option linter.unusedSimpArgs false
set_option maxRecDepth 100000
namespace Go.Proofs.YtmlbjakkojbdlaaGreatDoor
open Go

section
open Go Go.ChangeShapes Go.WideShapes Go.ChangeAt Go.RowKit
abbrev laid_BestActs : List (String × DataW Unit) := Rows.fnExactBestActsRow.laid
set_option maxRecDepth 100000 in
theorem door_BestActs (os : Os) (args : Array Value) : laidMetH Tryz.prog laid_BestActs ((World.doorLaid Tryz.prog 400 os).forCall (fun _ _ => 0) ⟨#[], args, []⟩).memory :=
 laidMetH_of_parts3 (fuel := 8) (laidMet_of_run' 8 (by kernel_rfl) (by kernel_rfl)) (by kernel_rfl) (by kernel_rfl)
theorem tabl_BestActs (w : World) (h : laidMetH Tryz.prog laid_BestActs w) : ∀ g, Program.globalNamed Tryz.prog tabName = some g → Lib.TabIs Tryz.prog w tabName .u64 tabNums := tab_p 2 (by kernel_rfl) (show List.drop 2 Rows.fnExactBestActsRow.laid = (tabName, Lib.tabData .u64 tabNums) :: List.drop 3 Rows.fnExactBestActsRow.laid by kernel_rfl) h
set_option maxRecDepth 100000 in
theorem fit_BestActs : tysFit Tryz.prog [.st [.int .i64, .str, .str, .str, .str], .cell (.int .i64)] [23, 2] := ⟨⟨_, Tryz.underlying23, by kernel_rfl, rfl, by kernel_rfl, fit_int Tryz.underlying2, rfl, by kernel_rfl, fit_str Tryz.underlying9, rfl, by kernel_rfl, fit_str Tryz.underlying9, rfl, by kernel_rfl, fit_str Tryz.underlying9, rfl, by kernel_rfl, fit_str Tryz.underlying9, trivial⟩, fit_int Tryz.underlying2, trivial⟩
set_option maxRecDepth 100000 in
theorem lifted_BestActs (os : Os) (started : os.Started) (H : Type) (enc : TypeId × Value → H) :
  ReturnsInHanded {} Tryz.checked os 3 .any (fun w args => (Rows.fnExactBestActsSpec.pre enc Tryz.prog Tryz.f3 [] false w args ∧ laidMetH Tryz.prog laid_BestActs w) ∧ sizedMet enc Tryz.prog Tryz.f3 (OpenSpec.ofChange Rows.fnExactBestActsSpec) false w args)
   (Rows.fnExactBestActsSpec.post enc Tryz.prog Tryz.f3 false true false false) :=
 LawOk.lifted (C := Tryz.checked) (X := fun w _ => laidMetH Tryz.prog laid_BestActs w) (ts := [23, 2]) (rt := 4) own_p started lawOk_BestActs (fun _ _ _ hh h => h.of_heap hh) (fun w _ h => tabl_BestActs w h) (by kernel_rfl) Tryz.func3
  (by kernel_rfl) (by kernel_rfl) Tryz.underlying4 fit_BestActs laidOut_p (by kernel_rfl) rfl (fun ds h => by match ds, h with | [_, _], _ => rfl)
  (ChangeSpec.witness_shaped (enc := enc) (C := Tryz.checked) (os := os) (X := fun w _ => laidMetH Tryz.prog laid_BestActs w) false (World.doorLaid Tryz.prog 400 os) #[.agg #[.int .i64 0, .string .empty, .string .empty, .string .empty, .string .empty], .int .i64 0] 8 rfl (World.shaped_of_RefB (by kernel_rfl) (by kernel_rfl)) (by kernel_rfl) (by kernel_rfl) (by kernel_rfl) (door_BestActs os _))
set_option maxRecDepth 100000 in
theorem inPlace_BestActs : Program.inPlace Tryz.prog 3 = Rows.fnExactBestActsRow.inPlace := by kernel_rfl
set_option maxRecDepth 100000 in
theorem unfollowed_BestActs : Program.unfollowed Tryz.prog 3 = Rows.fnExactBestActsRow.unfollowed := by kernel_rfl
set_option maxRecDepth 100000 in
theorem recurses_BestActs : Program.recurses Tryz.prog 3 = Rows.fnExactBestActsRow.recurses := by kernel_rfl
set_option maxRecDepth 100000 in
theorem named_BestActs : Program.varsNamed Tryz.prog 3 = Rows.fnExactBestActsRow.named := by kernel_rfl
set_option maxRecDepth 100000 in
theorem closed_BestActs : joinedFacts Tryz.prog 3 Tryz.f3 Rows.fnExactBestActsSpec Rows.fnExactBestActsRow = true := by
 unfold joinedFacts
 rw [laidOut_p, rowed_p, keys_p, heard_p, may_p, lift_p, make_p, inPlace_BestActs, unfollowed_BestActs, recurses_BestActs, named_BestActs]
 kernel_rfl
set_option maxRecDepth 100000 in
theorem row_BestActs : Rows.FnExactBestActsSaid :=
 OpenClaim.holds_of_wide 3 Tryz.f3 rfl rfl rfl rfl rfl rfl rfl ⟨rfl, rfl, rfl, rfl, rfl⟩ rfl rfl rfl rfl rfl (by kernel_rfl) Tryz.func3 closed_BestActs
  (of_decide_eq_true (by kernel_rfl)) (by unfold Func.isWrapper; first | (rw [if_pos (by decide +kernel)]; kernel_rfl) | (rw [if_neg (by decide +kernel)]; exact ⟨rfl, rfl⟩))
  (fun os started H enc _ => lifted_BestActs os started H enc)
end
end Go.Proofs.YtmlbjakkojbdlaaGreatDoor
