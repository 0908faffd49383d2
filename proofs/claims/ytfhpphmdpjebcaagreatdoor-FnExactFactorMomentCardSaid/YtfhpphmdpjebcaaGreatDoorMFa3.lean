/- The law of FactorMoment: the tied card -/
import Derived.Test.YtfhpphmdpjebcaaGreatDoorMFa2

set_option linter.unusedVariables false
set_option linter.unusedSimpArgs false

/- FnExactFactorMoment: the tied card. -/
set_option linter.unusedSimpArgs false
set_option linter.unusedVariables false
namespace Go.Proofs.YtfhpphmdpjebcaaGreatDoor
open Go

set_option maxRecDepth 100000 in
theorem looks_p : true = Program.looks Tryz.prog [] := by kernel_rfl
set_option maxRecDepth 100000 in
theorem main_p : Program.mainIs Tryz.prog = some (Rows.fnExactFactorMomentCard.stood.harness.1, Rows.fnExactFactorMomentCard.stood.harness.2.toList) := by kernel_rfl
set_option maxRecDepth 100000 in
theorem goes_FactorMoment : false = Rows.fnExactFactorMomentRow.goesBy Tryz.prog := by kernel_rfl
set_option maxRecDepth 100000 in
theorem ask_FactorMoment (f : FuncId) (fn : Func) (hf : Program.funcNamed Tryz.prog Rows.fnExactFactorMomentRow.func = some f) (hfn : (Program.funcs Tryz.prog)[f]? = some fn) : true = Program.looks Tryz.prog [] ∧ ∀ (j : Nat) t, fn.params[j]? = some t → Program.wantsStandIn Tryz.prog t = false := by
  obtain rfl : f = 6 := Option.some.inj ((show Program.funcNamed Tryz.prog "loop.example/g01211/laws.FnExactFactorMoment" = some 6 by kernel_rfl).symm.trans hf) |>.symm
  obtain rfl : fn = Tryz.f6 := (Option.some.inj (Tryz.func6.symm.trans hfn)).symm
  exact ⟨looks_p, fun j t ht => by
    rw [Tryz.params6] at ht
    have hm : t ∈ [22, 2] := by simpa using Array.mem_of_getElem? ht
    have hall : ([22, 2].all fun u => !Program.wantsStandIn Tryz.prog u) = true := by kernel_rfl
    exact (show Program.wantsStandIn Tryz.prog t = false by simpa using List.all_eq_true.1 hall t hm)⟩
set_option maxRecDepth 100000 in
theorem text_FactorMoment : Rows.fnExactFactorMomentRow.wfByText (OpenSpec.ofChange Rows.fnExactFactorMomentSpec) = true := by kernel_rfl
set_option maxRecDepth 100000 in
theorem fnExactFactorMomentCard_holds : Rows.FnExactFactorMomentCardSaid :=
  Claim7.holds_tied_plain_at .later [] [.data, .data, .data, .sentinel, .sentinel] true Rows.fnExactFactorMomentCard.stood.harness true
    row_FactorMoment (fun _ h => by cases h) text_FactorMoment (fun _ h => by cases h) fnExactFactorMoment_row_tie rfl ⟨rfl, rfl⟩ main_p rfl ask_FactorMoment goes_FactorMoment
#print axioms fnExactFactorMomentCard_holds
end Go.Proofs.YtfhpphmdpjebcaaGreatDoor
