/- A part of the proof that stands in YtgfencjehdbjcaaGreatDoorMC3. -/
import Derived.Test.YtgfencjehdbjcaaGreatDoorMC1

set_option linter.unusedVariables false
set_option linter.unusedSimpArgs false
set_option maxRecDepth 100000
namespace Go.Proofs.YtgfencjehdbjcaaGreatDoor
open Go

section
open Go Go.ChangeShapes Go.WideShapes Go.ChangeAt Go.RowKit
abbrev laid_IsBestPolicy : List (String × DataW Unit) := Rows.fnExactIsBestPolicyRow.laid
set_option maxRecDepth 100000 in
theorem door_IsBestPolicy (os : Os) (args : Array Value) : laidMetH Tryz.prog laid_IsBestPolicy ((World.doorLaid Tryz.prog 400 os).forCall (fun _ _ => 0) ⟨#[], args, []⟩).memory :=
 laidMetH_of_parts3 (fuel := 8) (laidMet_of_run' 8 (by kernel_rfl) (by kernel_rfl)) (by kernel_rfl) (by kernel_rfl)
theorem tabl_IsBestPolicy (w : World) (h : laidMetH Tryz.prog laid_IsBestPolicy w) : ∀ g, Program.globalNamed Tryz.prog tabName = some g → Lib.TabIs Tryz.prog w tabName .u64 tabNums := tab_p 2 (by kernel_rfl) (show List.drop 2 Rows.fnExactIsBestPolicyRow.laid = (tabName, Lib.tabData .u64 tabNums) :: List.drop 3 Rows.fnExactIsBestPolicyRow.laid by kernel_rfl) h
set_option maxRecDepth 100000 in
theorem fit_IsBestPolicy : tysFit Tryz.prog [.st [.int .i64, .str, .str, .str, .str], .cell (.sl 4 (.bool))] [23, 25] := ⟨⟨_, Tryz.underlying23, by kernel_rfl, rfl, by kernel_rfl, fit_int Tryz.underlying2, rfl, by kernel_rfl, fit_str Tryz.underlying9, rfl, by kernel_rfl, fit_str Tryz.underlying9, rfl, by kernel_rfl, fit_str Tryz.underlying9, rfl, by kernel_rfl, fit_str Tryz.underlying9, trivial⟩, fit_sl Tryz.underlying25 (by kernel_rfl) (by kernel_rfl) (of_decide_eq_true (by kernel_rfl)) (fit_bool Tryz.underlying4), trivial⟩
set_option maxRecDepth 100000 in
theorem lifted_IsBestPolicy (os : Os) (started : os.Started) (H : Type) (enc : TypeId × Value → H) :
  ReturnsInHanded {} Tryz.checked os 4 .any (fun w args => (Rows.fnExactIsBestPolicySpec.pre enc Tryz.prog Tryz.f4 [] false w args ∧ laidMetH Tryz.prog laid_IsBestPolicy w) ∧ sizedMet enc Tryz.prog Tryz.f4 (OpenSpec.ofChange Rows.fnExactIsBestPolicySpec) false w args)
   (Rows.fnExactIsBestPolicySpec.post enc Tryz.prog Tryz.f4 false true false false) :=
 LawOk.lifted (C := Tryz.checked) (X := fun w _ => laidMetH Tryz.prog laid_IsBestPolicy w) (ts := [23, 25]) (rt := 4) own_p started lawOk_IsBestPolicy (fun _ _ _ hh h => h.of_heap hh) (fun w _ h => tabl_IsBestPolicy w h) (by kernel_rfl) Tryz.func4
  (by kernel_rfl) (by kernel_rfl) Tryz.underlying4 fit_IsBestPolicy laidOut_p (by kernel_rfl) rfl (fun ds h => by match ds, h with | [_, _], _ => rfl)
  (ChangeSpec.witness_shaped (enc := enc) (C := Tryz.checked) (os := os) (X := fun w _ => laidMetH Tryz.prog laid_IsBestPolicy w) false (World.doorLaid Tryz.prog 400 os) #[.agg #[.int .i64 0, .string .empty, .string .empty, .string .empty, .string .empty], .slice none 0 0] 8 rfl (World.shaped_of_RefB (by kernel_rfl) (by kernel_rfl)) (by kernel_rfl) (by kernel_rfl) (by kernel_rfl) (door_IsBestPolicy os _))
set_option maxRecDepth 100000 in
theorem inPlace_IsBestPolicy : Program.inPlace Tryz.prog 4 = Rows.fnExactIsBestPolicyRow.inPlace := by kernel_rfl
set_option maxRecDepth 100000 in
theorem unfollowed_IsBestPolicy : Program.unfollowed Tryz.prog 4 = Rows.fnExactIsBestPolicyRow.unfollowed := by kernel_rfl
set_option maxRecDepth 100000 in
theorem recurses_IsBestPolicy : Program.recurses Tryz.prog 4 = Rows.fnExactIsBestPolicyRow.recurses := by kernel_rfl
set_option maxRecDepth 100000 in
theorem named_IsBestPolicy : Program.varsNamed Tryz.prog 4 = Rows.fnExactIsBestPolicyRow.named := by kernel_rfl
set_option maxRecDepth 100000 in
theorem closed_IsBestPolicy : joinedFacts Tryz.prog 4 Tryz.f4 Rows.fnExactIsBestPolicySpec Rows.fnExactIsBestPolicyRow = true := by
 unfold joinedFacts
 rw [laidOut_p, rowed_p, keys_p, heard_p, may_p, lift_p, make_p, inPlace_IsBestPolicy, unfollowed_IsBestPolicy, recurses_IsBestPolicy, named_IsBestPolicy]
 kernel_rfl
set_option maxRecDepth 100000 in
theorem row_IsBestPolicy : Rows.FnExactIsBestPolicySaid :=
 OpenClaim.holds_of_wide 4 Tryz.f4 rfl rfl rfl rfl rfl rfl rfl ⟨rfl, rfl, rfl, rfl, rfl⟩ rfl rfl rfl rfl rfl (by kernel_rfl) Tryz.func4 closed_IsBestPolicy
  (of_decide_eq_true (by kernel_rfl)) (by unfold Func.isWrapper; first | (rw [if_pos (by decide +kernel)]; kernel_rfl) | (rw [if_neg (by decide +kernel)]; exact ⟨rfl, rfl⟩))
  (fun os started H enc _ => lifted_IsBestPolicy os started H enc)
end
end Go.Proofs.YtgfencjehdbjcaaGreatDoor
