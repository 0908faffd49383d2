/- The law of SumSeries: the tied card -/
import Derived.Test.YtfhpphmdpjebcaaGreatDoorMS2

set_option linter.unusedVariables false
set_option linter.unusedSimpArgs false
set_option maxRecDepth 100000
namespace Go.Proofs.YtfhpphmdpjebcaaGreatDoor
open Go

set_option maxRecDepth 100000 in
theorem looks_p : true = Program.looks Tryz.prog [] := by kernel_rfl
set_option maxRecDepth 100000 in
theorem main_p : Program.mainIs Tryz.prog = some (Rows.fnExactSumSeriesCard.stood.harness.1, Rows.fnExactSumSeriesCard.stood.harness.2.toList) := by kernel_rfl
set_option maxRecDepth 100000 in
theorem goes_SumSeries : false = Rows.fnExactSumSeriesRow.goesBy Tryz.prog := by kernel_rfl
set_option maxRecDepth 100000 in
theorem ask_SumSeries (f : FuncId) (fn : Func) (hf : Program.funcNamed Tryz.prog Rows.fnExactSumSeriesRow.func = some f) (hfn : (Program.funcs Tryz.prog)[f]? = some fn) : true = Program.looks Tryz.prog [] ∧ ∀ (j : Nat) t, fn.params[j]? = some t → Program.wantsStandIn Tryz.prog t = false := by
  obtain rfl : f = 9 := Option.some.inj ((show Program.funcNamed Tryz.prog "loop.example/g01211/laws.FnExactSumSeries" = some 9 by kernel_rfl).symm.trans hf) |>.symm
  obtain rfl : fn = Tryz.f9 := (Option.some.inj (Tryz.func9.symm.trans hfn)).symm
  exact ⟨looks_p, fun j t ht => by
    rw [Tryz.params9] at ht
    have hm : t ∈ [22] := by simpa using Array.mem_of_getElem? ht
    have hall : ([22].all fun u => !Program.wantsStandIn Tryz.prog u) = true := by kernel_rfl
    exact (show Program.wantsStandIn Tryz.prog t = false by simpa using List.all_eq_true.1 hall t hm)⟩
set_option maxRecDepth 100000 in
theorem text_SumSeries : Rows.fnExactSumSeriesRow.wfByText (OpenSpec.ofChange Rows.fnExactSumSeriesSpec) = true := by kernel_rfl
set_option maxRecDepth 100000 in
theorem fnExactSumSeriesCard_holds : Rows.FnExactSumSeriesCardSaid :=
  Claim7.holds_tied_plain_at .later [] [.data, .data, .data, .sentinel, .sentinel] true Rows.fnExactSumSeriesCard.stood.harness true
    row_SumSeries (fun _ h => by cases h) text_SumSeries (fun _ h => by cases h) fnExactSumSeries_row_tie rfl ⟨rfl, rfl⟩ main_p rfl ask_SumSeries goes_SumSeries
#print axioms fnExactSumSeriesCard_holds
end Go.Proofs.YtfhpphmdpjebcaaGreatDoor
