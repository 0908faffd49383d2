/- The law of ThresholdActs: the tied card -/
import Derived.Test.YthmdjijacoafeaaGreatDoorMA2

set_option linter.unusedVariables false
set_option linter.unusedSimpArgs false
set_option maxRecDepth 100000
namespace Go.Proofs.YthmdjijacoafeaaGreatDoor
open Go

set_option maxRecDepth 100000 in
theorem looks_p : true = Program.looks Tryz.prog [] := by kernel_rfl
set_option maxRecDepth 100000 in
theorem main_p : Program.mainIs Tryz.prog = some (Rows.fnExactThresholdActsCard.stood.harness.1, Rows.fnExactThresholdActsCard.stood.harness.2.toList) := by kernel_rfl
set_option maxRecDepth 100000 in
theorem goes_ThresholdActs : false = Rows.fnExactThresholdActsRow.goesBy Tryz.prog := by kernel_rfl
set_option maxRecDepth 100000 in
theorem ask_ThresholdActs (f : FuncId) (fn : Func) (hf : Program.funcNamed Tryz.prog Rows.fnExactThresholdActsRow.func = some f) (hfn : (Program.funcs Tryz.prog)[f]? = some fn) : true = Program.looks Tryz.prog [] ∧ ∀ (j : Nat) t, fn.params[j]? = some t → Program.wantsStandIn Tryz.prog t = false := by
  obtain rfl : f = 3 := Option.some.inj ((show Program.funcNamed Tryz.prog "loop.example/g01211/laws.FnExactThresholdActs" = some 3 by kernel_rfl).symm.trans hf) |>.symm
  obtain rfl : fn = Tryz.f3 := (Option.some.inj (Tryz.func3.symm.trans hfn)).symm
  exact ⟨looks_p, fun j t ht => by
    rw [Tryz.params3] at ht
    have hm : t ∈ [23, 2] := by simpa using Array.mem_of_getElem? ht
    have hall : ([23, 2].all fun u => !Program.wantsStandIn Tryz.prog u) = true := by kernel_rfl
    exact (show Program.wantsStandIn Tryz.prog t = false by simpa using List.all_eq_true.1 hall t hm)⟩
set_option maxRecDepth 100000 in
theorem text_ThresholdActs : Rows.fnExactThresholdActsRow.wfByText (OpenSpec.ofChange Rows.fnExactThresholdActsSpec) = true := by kernel_rfl
set_option maxRecDepth 100000 in
theorem fnExactThresholdActsCard_holds : Rows.FnExactThresholdActsCardSaid :=
  Claim7.holds_tied_plain_at .later [] [.data, .data, .data, .sentinel, .sentinel] true Rows.fnExactThresholdActsCard.stood.harness true
    row_ThresholdActs (fun _ h => by cases h) text_ThresholdActs (fun _ h => by cases h) fnExactThresholdActs_row_tie rfl ⟨rfl, rfl⟩ main_p rfl ask_ThresholdActs goes_ThresholdActs
#print axioms fnExactThresholdActsCard_holds
end Go.Proofs.YthmdjijacoafeaaGreatDoor
