/- FnExactLengthSeries: for all texts of gaps and every number of terms the program's LengthSeries returns what the reference's returns, changes nothing and gives memory of its own (the tied card). -/
import Derived.Test.YtjilbkkappobpaaGreatDoorMY2

set_option linter.unusedVariables false
set_option linter.unusedSimpArgs false
set_option maxRecDepth 100000
namespace Go.Proofs.YtjilbkkappobpaaGreatDoor
open Go

set_option maxRecDepth 100000 in
theorem looks_p : true = Program.looks Tryz.prog [] := by kernel_rfl
set_option maxRecDepth 100000 in
theorem main_p : Program.mainIs Tryz.prog = some (Rows.fnExactLengthSeriesCard.stood.harness.1, Rows.fnExactLengthSeriesCard.stood.harness.2.toList) := by kernel_rfl
set_option maxRecDepth 100000 in
theorem goes_LengthSeries : false = Rows.fnExactLengthSeriesRow.goesBy Tryz.prog := by kernel_rfl
set_option maxRecDepth 100000 in
theorem ask_LengthSeries (f : FuncId) (fn : Func) (hf : Program.funcNamed Tryz.prog Rows.fnExactLengthSeriesRow.func = some f) (hfn : (Program.funcs Tryz.prog)[f]? = some fn) : true = Program.looks Tryz.prog [] ∧ ∀ (j : Nat) t, fn.params[j]? = some t → Program.wantsStandIn Tryz.prog t = false := by
 obtain rfl : f = 7 := Option.some.inj ((show Program.funcNamed Tryz.prog "loop.example/g01211/laws.FnExactLengthSeries" = some 7 by kernel_rfl).symm.trans hf) |>.symm
 obtain rfl : fn = Tryz.f7 := (Option.some.inj (Tryz.func7.symm.trans hfn)).symm
 exact ⟨looks_p, fun j t ht => by
  rw [Tryz.params7] at ht
  have hm : t ∈ [22, 2] := by simpa using Array.mem_of_getElem? ht
  have hall : ([22, 2].all fun u => !Program.wantsStandIn Tryz.prog u) = true := by kernel_rfl
  exact (show Program.wantsStandIn Tryz.prog t = false by simpa using List.all_eq_true.1 hall t hm)⟩
set_option maxRecDepth 100000 in
theorem text_LengthSeries : Rows.fnExactLengthSeriesRow.wfByText (OpenSpec.ofChange Rows.fnExactLengthSeriesSpec) = true := by kernel_rfl
set_option maxRecDepth 100000 in
theorem fnExactLengthSeriesCard_holds : Rows.FnExactLengthSeriesCardSaid :=
 Claim7.holds_tied_plain_at .later [] [.data, .data, .data, .sentinel, .sentinel] true Rows.fnExactLengthSeriesCard.stood.harness true
  row_LengthSeries (fun _ h => by cases h) text_LengthSeries (fun _ h => by cases h) fnExactLengthSeries_row_tie rfl ⟨rfl, rfl⟩ main_p rfl ask_LengthSeries goes_LengthSeries
#print axioms fnExactLengthSeriesCard_holds
end Go.Proofs.YtjilbkkappobpaaGreatDoor
