/- The law of ShiftSeries: the tied card -/
import Derived.Test.YtfhpphmdpjebcaaGreatDoorMW2

set_option linter.unusedVariables false
set_option linter.unusedSimpArgs false
set_option maxRecDepth 100000
namespace Go.Proofs.YtfhpphmdpjebcaaGreatDoor
open Go

set_option maxRecDepth 100000 in
theorem looks_p : true = Program.looks Tryz.prog [] := by kernel_rfl
set_option maxRecDepth 100000 in
theorem main_p : Program.mainIs Tryz.prog = some (Rows.fnExactShiftSeriesCard.stood.harness.1, Rows.fnExactShiftSeriesCard.stood.harness.2.toList) := by kernel_rfl
set_option maxRecDepth 100000 in
theorem goes_ShiftSeries : false = Rows.fnExactShiftSeriesRow.goesBy Tryz.prog := by kernel_rfl
set_option maxRecDepth 100000 in
theorem ask_ShiftSeries (f : FuncId) (fn : Func) (hf : Program.funcNamed Tryz.prog Rows.fnExactShiftSeriesRow.func = some f) (hfn : (Program.funcs Tryz.prog)[f]? = some fn) : true = Program.looks Tryz.prog [] ∧ ∀ (j : Nat) t, fn.params[j]? = some t → Program.wantsStandIn Tryz.prog t = false := by
  obtain rfl : f = 4 := Option.some.inj ((show Program.funcNamed Tryz.prog "loop.example/g01211/laws.FnExactShiftSeries" = some 4 by kernel_rfl).symm.trans hf) |>.symm
  obtain rfl : fn = Tryz.f4 := (Option.some.inj (Tryz.func4.symm.trans hfn)).symm
  exact ⟨looks_p, fun j t ht => by
    rw [Tryz.params4] at ht
    have hm : t ∈ [22, 2] := by simpa using Array.mem_of_getElem? ht
    have hall : ([22, 2].all fun u => !Program.wantsStandIn Tryz.prog u) = true := by kernel_rfl
    exact (show Program.wantsStandIn Tryz.prog t = false by simpa using List.all_eq_true.1 hall t hm)⟩
set_option maxRecDepth 100000 in
theorem text_ShiftSeries : Rows.fnExactShiftSeriesRow.wfByText (OpenSpec.ofChange Rows.fnExactShiftSeriesSpec) = true := by kernel_rfl
set_option maxRecDepth 100000 in
theorem fnExactShiftSeriesCard_holds : Rows.FnExactShiftSeriesCardSaid :=
  Claim7.holds_tied_plain_at .later [] [.data, .data, .data, .sentinel, .sentinel] true Rows.fnExactShiftSeriesCard.stood.harness true
    row_ShiftSeries (fun _ h => by cases h) text_ShiftSeries (fun _ h => by cases h) fnExactShiftSeries_row_tie rfl ⟨rfl, rfl⟩ main_p rfl ask_ShiftSeries goes_ShiftSeries
#print axioms fnExactShiftSeriesCard_holds
end Go.Proofs.YtfhpphmdpjebcaaGreatDoor
