/- The law of OverSeries: the tied card -/
import Derived.Test.YtfhpphmdpjebcaaGreatDoorMO2

set_option linter.unusedVariables false
set_option linter.unusedSimpArgs false
set_option maxRecDepth 100000
namespace Go.Proofs.YtfhpphmdpjebcaaGreatDoor
open Go

set_option maxRecDepth 100000 in
theorem looks_p : true = Program.looks Tryz.prog [] := by kernel_rfl
set_option maxRecDepth 100000 in
theorem main_p : Program.mainIs Tryz.prog = some (Rows.fnExactOverSeriesCard.stood.harness.1, Rows.fnExactOverSeriesCard.stood.harness.2.toList) := by kernel_rfl
set_option maxRecDepth 100000 in
theorem goes_OverSeries : false = Rows.fnExactOverSeriesRow.goesBy Tryz.prog := by kernel_rfl
set_option maxRecDepth 100000 in
theorem ask_OverSeries (f : FuncId) (fn : Func) (hf : Program.funcNamed Tryz.prog Rows.fnExactOverSeriesRow.func = some f) (hfn : (Program.funcs Tryz.prog)[f]? = some fn) : true = Program.looks Tryz.prog [] ∧ ∀ (j : Nat) t, fn.params[j]? = some t → Program.wantsStandIn Tryz.prog t = false := by
  obtain rfl : f = 10 := Option.some.inj ((show Program.funcNamed Tryz.prog "loop.example/g01211/laws.FnExactOverSeries" = some 10 by kernel_rfl).symm.trans hf) |>.symm
  obtain rfl : fn = Tryz.f10 := (Option.some.inj (Tryz.func10.symm.trans hfn)).symm
  exact ⟨looks_p, fun j t ht => by
    rw [Tryz.params10] at ht
    have hm : t ∈ [22, 22] := by simpa using Array.mem_of_getElem? ht
    have hall : ([22, 22].all fun u => !Program.wantsStandIn Tryz.prog u) = true := by kernel_rfl
    exact (show Program.wantsStandIn Tryz.prog t = false by simpa using List.all_eq_true.1 hall t hm)⟩
set_option maxRecDepth 100000 in
theorem text_OverSeries : Rows.fnExactOverSeriesRow.wfByText (OpenSpec.ofChange Rows.fnExactOverSeriesSpec) = true := by kernel_rfl
set_option maxRecDepth 100000 in
theorem fnExactOverSeriesCard_holds : Rows.FnExactOverSeriesCardSaid :=
  Claim7.holds_tied_plain_at .later [] [.data, .data, .data, .sentinel, .sentinel] true Rows.fnExactOverSeriesCard.stood.harness true
    row_OverSeries (fun _ h => by cases h) text_OverSeries (fun _ h => by cases h) fnExactOverSeries_row_tie rfl ⟨rfl, rfl⟩ main_p rfl ask_OverSeries goes_OverSeries
#print axioms fnExactOverSeriesCard_holds
end Go.Proofs.YtfhpphmdpjebcaaGreatDoor
