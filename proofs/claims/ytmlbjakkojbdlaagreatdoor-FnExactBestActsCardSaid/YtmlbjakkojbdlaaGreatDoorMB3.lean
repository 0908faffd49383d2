/- FnExactBestActs: for all models and horizons the program's BestActs returns what the reference's returns and gives memory of its own (the tied card). -/
import Derived.Test.YtmlbjakkojbdlaaGreatDoorMB2

set_option linter.unusedVariables false
set_option linter.unusedSimpArgs false
set_option maxRecDepth 100000
namespace Go.Proofs.YtmlbjakkojbdlaaGreatDoor
open Go

set_option maxRecDepth 100000 in
theorem looks_p : true = Program.looks Tryz.prog [] := by kernel_rfl
set_option maxRecDepth 100000 in
theorem main_p : Program.mainIs Tryz.prog = some (Rows.fnExactBestActsCard.stood.harness.1, Rows.fnExactBestActsCard.stood.harness.2.toList) := by kernel_rfl
set_option maxRecDepth 100000 in
theorem goes_BestActs : false = Rows.fnExactBestActsRow.goesBy Tryz.prog := by kernel_rfl
set_option maxRecDepth 100000 in
theorem ask_BestActs (f : FuncId) (fn : Func) (hf : Program.funcNamed Tryz.prog Rows.fnExactBestActsRow.func = some f) (hfn : (Program.funcs Tryz.prog)[f]? = some fn) : true = Program.looks Tryz.prog [] ∧ ∀ (j : Nat) t, fn.params[j]? = some t → Program.wantsStandIn Tryz.prog t = false := by
 obtain rfl : f = 3 := Option.some.inj ((show Program.funcNamed Tryz.prog "loop.example/g01211/laws.FnExactBestActs" = some 3 by kernel_rfl).symm.trans hf) |>.symm
 obtain rfl : fn = Tryz.f3 := (Option.some.inj (Tryz.func3.symm.trans hfn)).symm
 exact ⟨looks_p, fun j t ht => by
  rw [Tryz.params3] at ht
  have hm : t ∈ [23, 2] := by simpa using Array.mem_of_getElem? ht
  have hall : ([23, 2].all fun u => !Program.wantsStandIn Tryz.prog u) = true := by kernel_rfl
  exact (show Program.wantsStandIn Tryz.prog t = false by simpa using List.all_eq_true.1 hall t hm)⟩
set_option maxRecDepth 100000 in
theorem text_BestActs : Rows.fnExactBestActsRow.wfByText (OpenSpec.ofChange Rows.fnExactBestActsSpec) = true := by kernel_rfl
set_option maxRecDepth 100000 in
theorem fnExactBestActsCard_holds : Rows.FnExactBestActsCardSaid :=
 Claim7.holds_tied_plain_at .later [] [.data, .data, .data, .sentinel, .sentinel] true Rows.fnExactBestActsCard.stood.harness true
  row_BestActs (fun _ h => by cases h) text_BestActs (fun _ h => by cases h) fnExactBestActs_row_tie rfl ⟨rfl, rfl⟩ main_p rfl ask_BestActs goes_BestActs
#print axioms fnExactBestActsCard_holds
end Go.Proofs.YtmlbjakkojbdlaaGreatDoor
