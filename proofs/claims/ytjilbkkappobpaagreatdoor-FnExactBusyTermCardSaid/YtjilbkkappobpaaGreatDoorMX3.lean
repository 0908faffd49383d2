/- FnExactBusyTerm: for all texts of gaps and every number the program's BusyTerm returns what the reference's returns and changes nothing (the tied card). -/
import Derived.Test.YtjilbkkappobpaaGreatDoorMX2

set_option linter.unusedVariables false
set_option linter.unusedSimpArgs false
set_option maxRecDepth 100000
namespace Go.Proofs.YtjilbkkappobpaaGreatDoor
open Go

set_option maxRecDepth 100000 in
theorem looks_p : true = Program.looks Tryz.prog [] := by kernel_rfl
set_option maxRecDepth 100000 in
theorem main_p : Program.mainIs Tryz.prog = some (Rows.fnExactBusyTermCard.stood.harness.1, Rows.fnExactBusyTermCard.stood.harness.2.toList) := by kernel_rfl
set_option maxRecDepth 100000 in
theorem goes_BusyTerm : false = Rows.fnExactBusyTermRow.goesBy Tryz.prog := by kernel_rfl
set_option maxRecDepth 100000 in
theorem ask_BusyTerm (f : FuncId) (fn : Func) (hf : Program.funcNamed Tryz.prog Rows.fnExactBusyTermRow.func = some f) (hfn : (Program.funcs Tryz.prog)[f]? = some fn) : true = Program.looks Tryz.prog [] ∧ ∀ (j : Nat) t, fn.params[j]? = some t → Program.wantsStandIn Tryz.prog t = false := by
 obtain rfl : f = 5 := Option.some.inj ((show Program.funcNamed Tryz.prog "loop.example/g01211/laws.FnExactBusyTerm" = some 5 by kernel_rfl).symm.trans hf) |>.symm
 obtain rfl : fn = Tryz.f5 := (Option.some.inj (Tryz.func5.symm.trans hfn)).symm
 exact ⟨looks_p, fun j t ht => by
  rw [Tryz.params5] at ht
  have hm : t ∈ [22, 2] := by simpa using Array.mem_of_getElem? ht
  have hall : ([22, 2].all fun u => !Program.wantsStandIn Tryz.prog u) = true := by kernel_rfl
  exact (show Program.wantsStandIn Tryz.prog t = false by simpa using List.all_eq_true.1 hall t hm)⟩
set_option maxRecDepth 100000 in
theorem text_BusyTerm : Rows.fnExactBusyTermRow.wfByText (OpenSpec.ofChange Rows.fnExactBusyTermSpec) = true := by kernel_rfl
set_option maxRecDepth 100000 in
theorem fnExactBusyTermCard_holds : Rows.FnExactBusyTermCardSaid :=
 Claim7.holds_tied_plain_at .later [] [.data, .data, .data, .sentinel, .sentinel] true Rows.fnExactBusyTermCard.stood.harness true
  row_BusyTerm (fun _ h => by cases h) text_BusyTerm (fun _ h => by cases h) fnExactBusyTerm_row_tie rfl ⟨rfl, rfl⟩ main_p rfl ask_BusyTerm goes_BusyTerm
#print axioms fnExactBusyTermCard_holds
end Go.Proofs.YtjilbkkappobpaaGreatDoor
