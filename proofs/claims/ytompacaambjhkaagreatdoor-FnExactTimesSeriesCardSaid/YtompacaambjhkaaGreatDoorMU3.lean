/- The law of TimesSeries: the tied card -/
import Derived.Test.YtompacaambjhkaaGreatDoorMU2

set_option linter.unusedVariables false
set_option linter.unusedSimpArgs false
set_option maxRecDepth 100000
namespace Go.Proofs.YtompacaambjhkaaGreatDoor
open Go

set_option maxRecDepth 100000 in
theorem looks_p : true = Program.looks Tryz.prog [] := by kernel_rfl
set_option maxRecDepth 100000 in
theorem main_p : Program.mainIs Tryz.prog = some (Rows.fnExactTimesSeriesCard.stood.harness.1, Rows.fnExactTimesSeriesCard.stood.harness.2.toList) := by kernel_rfl
set_option maxRecDepth 100000 in
theorem goes_TimesSeries : false = Rows.fnExactTimesSeriesRow.goesBy Tryz.prog := by kernel_rfl
set_option maxRecDepth 100000 in
theorem ask_TimesSeries (f : FuncId) (fn : Func) (hf : Program.funcNamed Tryz.prog Rows.fnExactTimesSeriesRow.func = some f) (hfn : (Program.funcs Tryz.prog)[f]? = some fn) : true = Program.looks Tryz.prog [] ∧ ∀ (j : Nat) t, fn.params[j]? = some t → Program.wantsStandIn Tryz.prog t = false := by
  obtain rfl : f = 3 := Option.some.inj ((show Program.funcNamed Tryz.prog "loop.example/g01211/laws.FnExactTimesSeries" = some 3 by kernel_rfl).symm.trans hf) |>.symm
  obtain rfl : fn = Tryz.f3 := (Option.some.inj (Tryz.func3.symm.trans hfn)).symm
  exact ⟨looks_p, fun j t ht => by
    rw [Tryz.params3] at ht
    have hm : t ∈ [22, 22] := by simpa using Array.mem_of_getElem? ht
    have hall : ([22, 22].all fun u => !Program.wantsStandIn Tryz.prog u) = true := by kernel_rfl
    exact (show Program.wantsStandIn Tryz.prog t = false by simpa using List.all_eq_true.1 hall t hm)⟩
set_option maxRecDepth 100000 in
theorem text_TimesSeries : Rows.fnExactTimesSeriesRow.wfByText (OpenSpec.ofChange Rows.fnExactTimesSeriesSpec) = true := by kernel_rfl
set_option maxRecDepth 100000 in
theorem fnExactTimesSeriesCard_holds : Rows.FnExactTimesSeriesCardSaid :=
  Claim7.holds_tied_plain_at .later [] [.data, .data, .data, .sentinel, .sentinel] true Rows.fnExactTimesSeriesCard.stood.harness true
    row_TimesSeries (fun _ h => by cases h) text_TimesSeries (fun _ h => by cases h) fnExactTimesSeries_row_tie rfl ⟨rfl, rfl⟩ main_p rfl ask_TimesSeries goes_TimesSeries
#print axioms fnExactTimesSeriesCard_holds
end Go.Proofs.YtompacaambjhkaaGreatDoor
