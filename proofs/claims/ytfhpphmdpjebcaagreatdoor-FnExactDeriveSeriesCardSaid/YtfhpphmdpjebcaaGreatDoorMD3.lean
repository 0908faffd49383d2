/- The law of DeriveSeries: the tied card -/
import Derived.Test.YtfhpphmdpjebcaaGreatDoorMD2

set_option linter.unusedVariables false
set_option linter.unusedSimpArgs false
set_option maxRecDepth 100000
namespace Go.Proofs.YtfhpphmdpjebcaaGreatDoor
open Go

set_option maxRecDepth 100000 in
theorem looks_p : true = Program.looks Tryz.prog [] := by kernel_rfl
set_option maxRecDepth 100000 in
theorem main_p : Program.mainIs Tryz.prog = some (Rows.fnExactDeriveSeriesCard.stood.harness.1, Rows.fnExactDeriveSeriesCard.stood.harness.2.toList) := by kernel_rfl
set_option maxRecDepth 100000 in
theorem goes_DeriveSeries : false = Rows.fnExactDeriveSeriesRow.goesBy Tryz.prog := by kernel_rfl
set_option maxRecDepth 100000 in
theorem ask_DeriveSeries (f : FuncId) (fn : Func) (hf : Program.funcNamed Tryz.prog Rows.fnExactDeriveSeriesRow.func = some f) (hfn : (Program.funcs Tryz.prog)[f]? = some fn) : true = Program.looks Tryz.prog [] ∧ ∀ (j : Nat) t, fn.params[j]? = some t → Program.wantsStandIn Tryz.prog t = false := by
  obtain rfl : f = 3 := Option.some.inj ((show Program.funcNamed Tryz.prog "loop.example/g01211/laws.FnExactDeriveSeries" = some 3 by kernel_rfl).symm.trans hf) |>.symm
  obtain rfl : fn = Tryz.f3 := (Option.some.inj (Tryz.func3.symm.trans hfn)).symm
  exact ⟨looks_p, fun j t ht => by
    rw [Tryz.params3] at ht
    have hm : t ∈ [22] := by simpa using Array.mem_of_getElem? ht
    have hall : ([22].all fun u => !Program.wantsStandIn Tryz.prog u) = true := by kernel_rfl
    exact (show Program.wantsStandIn Tryz.prog t = false by simpa using List.all_eq_true.1 hall t hm)⟩
set_option maxRecDepth 100000 in
theorem text_DeriveSeries : Rows.fnExactDeriveSeriesRow.wfByText (OpenSpec.ofChange Rows.fnExactDeriveSeriesSpec) = true := by kernel_rfl
set_option maxRecDepth 100000 in
theorem fnExactDeriveSeriesCard_holds : Rows.FnExactDeriveSeriesCardSaid :=
  Claim7.holds_tied_plain_at .later [] [.data, .data, .data, .sentinel, .sentinel] true Rows.fnExactDeriveSeriesCard.stood.harness true
    row_DeriveSeries (fun _ h => by cases h) text_DeriveSeries (fun _ h => by cases h) fnExactDeriveSeries_row_tie rfl ⟨rfl, rfl⟩ main_p rfl ask_DeriveSeries goes_DeriveSeries
#print axioms fnExactDeriveSeriesCard_holds
end Go.Proofs.YtfhpphmdpjebcaaGreatDoor
