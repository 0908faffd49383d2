/- A part of the proof that stands in YtjilbkkappobpaaGreatDoorMX3. -/
import Derived.Test.YtjilbkkappobpaaGreatDoorMX1

set_option linter.unusedVariables false
set_option linter.unusedSimpArgs false
set_option maxRecDepth 100000
namespace Go.Proofs.YtjilbkkappobpaaGreatDoor
open Go

section
open Go Go.ChangeShapes Go.WideShapes Go.ChangeAt Go.RowKit
abbrev laid_BusyTerm : List (String × DataW Unit) := Rows.fnExactBusyTermRow.laid
set_option maxRecDepth 100000 in
theorem door_BusyTerm (os : Os) (args : Array Value) : laidMetH Tryz.prog laid_BusyTerm ((World.doorLaid Tryz.prog 400 os).forCall (fun _ _ => 0) ⟨#[], args, []⟩).memory :=
 laidMetH_of_parts3 (fuel := 8) (laidMet_of_run' 8 (by kernel_rfl) (by kernel_rfl)) (by kernel_rfl) (by kernel_rfl)
theorem tabl_BusyTerm (w : World) (h : laidMetH Tryz.prog laid_BusyTerm w) : ∀ g, Program.globalNamed Tryz.prog tabName = some g → Lib.TabIs Tryz.prog w tabName .u64 tabNums := tab_p 2 (by kernel_rfl) (show List.drop 2 Rows.fnExactBusyTermRow.laid = (tabName, Lib.tabData .u64 tabNums) :: List.drop 3 Rows.fnExactBusyTermRow.laid by kernel_rfl) h
set_option maxRecDepth 100000 in
theorem fit_BusyTerm : tysFit Tryz.prog [.cell (.sl 9 (.str)), .cell (.int .i64)] [22, 2] := ⟨fit_sl Tryz.underlying22 (by kernel_rfl) (by kernel_rfl) (of_decide_eq_true (by kernel_rfl)) (fit_str Tryz.underlying9), fit_int Tryz.underlying2, trivial⟩
set_option maxRecDepth 100000 in
theorem lifted_BusyTerm (os : Os) (started : os.Started) (H : Type) (enc : TypeId × Value → H) :
  ReturnsInHanded {} Tryz.checked os 5 .any (fun w args => (Rows.fnExactBusyTermSpec.pre enc Tryz.prog Tryz.f5 [] false w args ∧ laidMetH Tryz.prog laid_BusyTerm w) ∧ sizedMet enc Tryz.prog Tryz.f5 (OpenSpec.ofChange Rows.fnExactBusyTermSpec) false w args)
   (Rows.fnExactBusyTermSpec.post enc Tryz.prog Tryz.f5 false true false false) :=
 LawOk.lifted (C := Tryz.checked) (X := fun w _ => laidMetH Tryz.prog laid_BusyTerm w) (ts := [22, 2]) (rt := 4) own_p started lawOk_BusyTerm (fun _ _ _ hh h => h.of_heap hh) (fun w _ h => tabl_BusyTerm w h) (by kernel_rfl) Tryz.func5
  (by kernel_rfl) (by kernel_rfl) Tryz.underlying4 fit_BusyTerm laidOut_p (by kernel_rfl) rfl (fun ds h => by match ds, h with | [_, _], _ => rfl)
  (ChangeSpec.witness_shaped (enc := enc) (C := Tryz.checked) (os := os) (X := fun w _ => laidMetH Tryz.prog laid_BusyTerm w) false (World.doorLaid Tryz.prog 400 os) #[.slice none 0 0, .int .i64 0] 8 rfl (World.shaped_of_RefB (by kernel_rfl) (by kernel_rfl)) (by kernel_rfl) (by kernel_rfl) (by kernel_rfl) (door_BusyTerm os _))
set_option maxRecDepth 100000 in
theorem inPlace_BusyTerm : Program.inPlace Tryz.prog 5 = Rows.fnExactBusyTermRow.inPlace := by kernel_rfl
set_option maxRecDepth 100000 in
theorem unfollowed_BusyTerm : Program.unfollowed Tryz.prog 5 = Rows.fnExactBusyTermRow.unfollowed := by kernel_rfl
set_option maxRecDepth 100000 in
theorem recurses_BusyTerm : Program.recurses Tryz.prog 5 = Rows.fnExactBusyTermRow.recurses := by kernel_rfl
set_option maxRecDepth 100000 in
theorem named_BusyTerm : Program.varsNamed Tryz.prog 5 = Rows.fnExactBusyTermRow.named := by kernel_rfl
set_option maxRecDepth 100000 in
theorem closed_BusyTerm : joinedFacts Tryz.prog 5 Tryz.f5 Rows.fnExactBusyTermSpec Rows.fnExactBusyTermRow = true := by
 unfold joinedFacts
 rw [laidOut_p, rowed_p, keys_p, heard_p, may_p, lift_p, make_p, inPlace_BusyTerm, unfollowed_BusyTerm, recurses_BusyTerm, named_BusyTerm]
 kernel_rfl
set_option maxRecDepth 100000 in
theorem row_BusyTerm : Rows.FnExactBusyTermSaid :=
 OpenClaim.holds_of_wide 5 Tryz.f5 rfl rfl rfl rfl rfl rfl rfl ⟨rfl, rfl, rfl, rfl, rfl⟩ rfl rfl rfl rfl rfl (by kernel_rfl) Tryz.func5 closed_BusyTerm
  (of_decide_eq_true (by kernel_rfl)) (by unfold Func.isWrapper; first | (rw [if_pos (by decide +kernel)]; kernel_rfl) | (rw [if_neg (by decide +kernel)]; exact ⟨rfl, rfl⟩))
  (fun os started H enc _ => lifted_BusyTerm os started H enc)
end
end Go.Proofs.YtjilbkkappobpaaGreatDoor
