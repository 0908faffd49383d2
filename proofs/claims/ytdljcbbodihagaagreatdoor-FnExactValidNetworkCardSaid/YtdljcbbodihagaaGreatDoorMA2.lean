/- A part of the proof. -/
import Derived.Test.YtdljcbbodihagaaGreatDoorMA1

set_option linter.unusedVariables false
set_option linter.unusedSimpArgs false
set_option maxRecDepth 100000
namespace Go.Proofs.YtdljcbbodihagaaGreatDoor
open Go

section
open Go Go.ChangeShapes Go.WideShapes Go.ChangeAt Go.RowKit
abbrev laid_ValidNetwork : List (String × DataW Unit) := Rows.fnExactValidNetworkRow.laid
set_option maxRecDepth 100000 in
theorem door_ValidNetwork (os : Os) (args : Array Value) : laidMetH Tryz.prog laid_ValidNetwork ((World.doorLaid Tryz.prog 400 os).forCall (fun _ _ => 0) ⟨#[], args, []⟩).memory :=
 laidMetH_of_parts3 (fuel := 8) (laidMet_of_run' 8 (by kernel_rfl) (by kernel_rfl)) (by kernel_rfl) (by kernel_rfl)
theorem tabl_ValidNetwork (w : World) (h : laidMetH Tryz.prog laid_ValidNetwork w) : ∀ g, Program.globalNamed Tryz.prog tabName = some g → Lib.TabIs Tryz.prog w tabName .u64 tabNums := tab_p 2 (by kernel_rfl) (show List.drop 2 Rows.fnExactValidNetworkRow.laid = (tabName, Lib.tabData .u64 tabNums) :: List.drop 3 Rows.fnExactValidNetworkRow.laid by kernel_rfl) h
set_option maxRecDepth 100000 in
theorem fit_ValidNetwork : tysFit Tryz.prog [.st [.sl 9 (.str), .sl 9 (.str), .sl 22 (.sl 9 (.str))]] [25] := ⟨⟨_, Tryz.underlying25, by kernel_rfl, rfl, by kernel_rfl, fit_sl Tryz.underlying22 (by kernel_rfl) (by kernel_rfl) (of_decide_eq_true (by kernel_rfl)) (fit_str Tryz.underlying9), rfl, by kernel_rfl, fit_sl Tryz.underlying22 (by kernel_rfl) (by kernel_rfl) (of_decide_eq_true (by kernel_rfl)) (fit_str Tryz.underlying9), rfl, by kernel_rfl, fit_sl Tryz.underlying23 (by kernel_rfl) (by kernel_rfl) (of_decide_eq_true (by kernel_rfl)) (fit_sl Tryz.underlying22 (by kernel_rfl) (by kernel_rfl) (of_decide_eq_true (by kernel_rfl)) (fit_str Tryz.underlying9)), trivial⟩, trivial⟩
set_option maxRecDepth 100000 in
theorem lifted_ValidNetwork (os : Os) (started : os.Started) (H : Type) (enc : TypeId × Value → H) :
  ReturnsInHanded {} Tryz.checked os 3 .any (fun w args => (Rows.fnExactValidNetworkSpec.pre enc Tryz.prog Tryz.f3 [] false w args ∧ laidMetH Tryz.prog laid_ValidNetwork w) ∧ sizedMet enc Tryz.prog Tryz.f3 (OpenSpec.ofChange Rows.fnExactValidNetworkSpec) false w args)
   (Rows.fnExactValidNetworkSpec.post enc Tryz.prog Tryz.f3 false true false false) :=
 LawOk.lifted (C := Tryz.checked) (X := fun w _ => laidMetH Tryz.prog laid_ValidNetwork w) (ts := [25]) (rt := 4) own_p started lawOk_ValidNetwork (fun _ _ _ hh h => h.of_heap hh) (fun w _ h => tabl_ValidNetwork w h) (by kernel_rfl) Tryz.func3
  (by kernel_rfl) (by kernel_rfl) Tryz.underlying4 fit_ValidNetwork laidOut_p (by kernel_rfl) rfl (fun ds h => by match ds, h with | [_], _ => rfl)
  (ChangeSpec.witness_shaped (enc := enc) (C := Tryz.checked) (os := os) (X := fun w _ => laidMetH Tryz.prog laid_ValidNetwork w) false (World.doorLaid Tryz.prog 400 os) #[.agg #[.slice none 0 0, .slice none 0 0, .slice none 0 0]] 8 rfl (World.shaped_of_RefB (by kernel_rfl) (by kernel_rfl)) (by kernel_rfl) (by kernel_rfl) (by kernel_rfl) (door_ValidNetwork os _))
set_option maxRecDepth 100000 in
theorem inPlace_ValidNetwork : Program.inPlace Tryz.prog 3 = Rows.fnExactValidNetworkRow.inPlace := by kernel_rfl
set_option maxRecDepth 100000 in
theorem unfollowed_ValidNetwork : Program.unfollowed Tryz.prog 3 = Rows.fnExactValidNetworkRow.unfollowed := by kernel_rfl
set_option maxRecDepth 100000 in
theorem recurses_ValidNetwork : Program.recurses Tryz.prog 3 = Rows.fnExactValidNetworkRow.recurses := by kernel_rfl
set_option maxRecDepth 100000 in
theorem named_ValidNetwork : Program.varsNamed Tryz.prog 3 = Rows.fnExactValidNetworkRow.named := by kernel_rfl
set_option maxRecDepth 100000 in
theorem closed_ValidNetwork : joinedFacts Tryz.prog 3 Tryz.f3 Rows.fnExactValidNetworkSpec Rows.fnExactValidNetworkRow = true := by
 unfold joinedFacts
 rw [laidOut_p, rowed_p, keys_p, heard_p, may_p, lift_p, make_p, inPlace_ValidNetwork, unfollowed_ValidNetwork, recurses_ValidNetwork, named_ValidNetwork]
 kernel_rfl
set_option maxRecDepth 100000 in
theorem row_ValidNetwork : Rows.FnExactValidNetworkSaid :=
 OpenClaim.holds_of_wide 3 Tryz.f3 rfl rfl rfl rfl rfl rfl rfl ⟨rfl, rfl, rfl, rfl, rfl⟩ rfl rfl rfl rfl rfl (by kernel_rfl) Tryz.func3 closed_ValidNetwork
  (of_decide_eq_true (by kernel_rfl)) (by unfold Func.isWrapper; first | (rw [if_pos (by decide +kernel)]; kernel_rfl) | (rw [if_neg (by decide +kernel)]; exact ⟨rfl, rfl⟩))
  (fun os started H enc _ => lifted_ValidNetwork os started H enc)
end
end Go.Proofs.YtdljcbbodihagaaGreatDoor
