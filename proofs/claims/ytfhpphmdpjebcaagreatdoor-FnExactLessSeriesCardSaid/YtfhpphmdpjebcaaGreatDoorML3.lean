/- The law of LessSeries: the tied card -/
import Derived.Test.YtfhpphmdpjebcaaGreatDoorML2

set_option linter.unusedVariables false
set_option linter.unusedSimpArgs false
set_option maxRecDepth 100000
namespace Go.Proofs.YtfhpphmdpjebcaaGreatDoor
open Go

set_option maxRecDepth 100000 in
theorem looks_p : true = Program.looks Tryz.prog [] := by kernel_rfl
set_option maxRecDepth 100000 in
theorem main_p : Program.mainIs Tryz.prog = some (Rows.fnExactLessSeriesCard.stood.harness.1, Rows.fnExactLessSeriesCard.stood.harness.2.toList) := by kernel_rfl
set_option maxRecDepth 100000 in
theorem goes_LessSeries : false = Rows.fnExactLessSeriesRow.goesBy Tryz.prog := by kernel_rfl
set_option maxRecDepth 100000 in
theorem ask_LessSeries (f : FuncId) (fn : Func) (hf : Program.funcNamed Tryz.prog Rows.fnExactLessSeriesRow.func = some f) (hfn : (Program.funcs Tryz.prog)[f]? = some fn) : true = Program.looks Tryz.prog [] ∧ ∀ (j : Nat) t, fn.params[j]? = some t → Program.wantsStandIn Tryz.prog t = false := by
  obtain rfl : f = 8 := Option.some.inj ((show Program.funcNamed Tryz.prog "loop.example/g01211/laws.FnExactLessSeries" = some 8 by kernel_rfl).symm.trans hf) |>.symm
  obtain rfl : fn = Tryz.f8 := (Option.some.inj (Tryz.func8.symm.trans hfn)).symm
  exact ⟨looks_p, fun j t ht => by
    rw [Tryz.params8] at ht
    have hm : t ∈ [22, 22] := by simpa using Array.mem_of_getElem? ht
    have hall : ([22, 22].all fun u => !Program.wantsStandIn Tryz.prog u) = true := by kernel_rfl
    exact (show Program.wantsStandIn Tryz.prog t = false by simpa using List.all_eq_true.1 hall t hm)⟩
set_option maxRecDepth 100000 in
theorem text_LessSeries : Rows.fnExactLessSeriesRow.wfByText (OpenSpec.ofChange Rows.fnExactLessSeriesSpec) = true := by kernel_rfl
set_option maxRecDepth 100000 in
theorem fnExactLessSeriesCard_holds : Rows.FnExactLessSeriesCardSaid :=
  Claim7.holds_tied_plain_at .later [] [.data, .data, .data, .sentinel, .sentinel] true Rows.fnExactLessSeriesCard.stood.harness true
    row_LessSeries (fun _ h => by cases h) text_LessSeries (fun _ h => by cases h) fnExactLessSeries_row_tie rfl ⟨rfl, rfl⟩ main_p rfl ask_LessSeries goes_LessSeries
#print axioms fnExactLessSeriesCard_holds
end Go.Proofs.YtfhpphmdpjebcaaGreatDoor
