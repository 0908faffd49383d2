/- The law of LengthMean: the tied card -/
import Derived.Test.YtompacaambjhkaaGreatDoorMQ2

set_option linter.unusedVariables false
set_option linter.unusedSimpArgs false
set_option maxRecDepth 100000
namespace Go.Proofs.YtompacaambjhkaaGreatDoor
open Go

set_option maxRecDepth 100000 in
theorem looks_p : true = Program.looks Tryz.prog [] := by kernel_rfl
set_option maxRecDepth 100000 in
theorem main_p : Program.mainIs Tryz.prog = some (Rows.fnExactLengthMeanCard.stood.harness.1, Rows.fnExactLengthMeanCard.stood.harness.2.toList) := by kernel_rfl
set_option maxRecDepth 100000 in
theorem goes_LengthMean : false = Rows.fnExactLengthMeanRow.goesBy Tryz.prog := by kernel_rfl
set_option maxRecDepth 100000 in
theorem ask_LengthMean (f : FuncId) (fn : Func) (hf : Program.funcNamed Tryz.prog Rows.fnExactLengthMeanRow.func = some f) (hfn : (Program.funcs Tryz.prog)[f]? = some fn) : true = Program.looks Tryz.prog [] ∧ ∀ (j : Nat) t, fn.params[j]? = some t → Program.wantsStandIn Tryz.prog t = false := by
  obtain rfl : f = 5 := Option.some.inj ((show Program.funcNamed Tryz.prog "loop.example/g01211/laws.FnExactLengthMean" = some 5 by kernel_rfl).symm.trans hf) |>.symm
  obtain rfl : fn = Tryz.f5 := (Option.some.inj (Tryz.func5.symm.trans hfn)).symm
  exact ⟨looks_p, fun j t ht => by
    rw [Tryz.params5] at ht
    have hm : t ∈ [22] := by simpa using Array.mem_of_getElem? ht
    have hall : ([22].all fun u => !Program.wantsStandIn Tryz.prog u) = true := by kernel_rfl
    exact (show Program.wantsStandIn Tryz.prog t = false by simpa using List.all_eq_true.1 hall t hm)⟩
set_option maxRecDepth 100000 in
theorem text_LengthMean : Rows.fnExactLengthMeanRow.wfByText (OpenSpec.ofChange Rows.fnExactLengthMeanSpec) = true := by kernel_rfl
set_option maxRecDepth 100000 in
theorem fnExactLengthMeanCard_holds : Rows.FnExactLengthMeanCardSaid :=
  Claim7.holds_tied_plain_at .later [] [.data, .data, .data, .sentinel, .sentinel] true Rows.fnExactLengthMeanCard.stood.harness true
    row_LengthMean (fun _ h => by cases h) text_LengthMean (fun _ h => by cases h) fnExactLengthMean_row_tie rfl ⟨rfl, rfl⟩ main_p rfl ask_LengthMean goes_LengthMean
#print axioms fnExactLengthMeanCard_holds
end Go.Proofs.YtompacaambjhkaaGreatDoor
