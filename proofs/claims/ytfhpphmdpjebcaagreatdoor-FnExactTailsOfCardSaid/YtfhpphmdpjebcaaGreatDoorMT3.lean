/- The law of TailsOf: the tied card -/
import Derived.Test.YtfhpphmdpjebcaaGreatDoorMT2

set_option linter.unusedVariables false
set_option linter.unusedSimpArgs false
set_option maxRecDepth 100000
namespace Go.Proofs.YtfhpphmdpjebcaaGreatDoor
open Go

set_option maxRecDepth 100000 in
theorem looks_p : true = Program.looks Tryz.prog [] := by kernel_rfl
set_option maxRecDepth 100000 in
theorem main_p : Program.mainIs Tryz.prog = some (Rows.fnExactTailsOfCard.stood.harness.1, Rows.fnExactTailsOfCard.stood.harness.2.toList) := by kernel_rfl
set_option maxRecDepth 100000 in
theorem goes_TailsOf : false = Rows.fnExactTailsOfRow.goesBy Tryz.prog := by kernel_rfl
set_option maxRecDepth 100000 in
theorem ask_TailsOf (f : FuncId) (fn : Func) (hf : Program.funcNamed Tryz.prog Rows.fnExactTailsOfRow.func = some f) (hfn : (Program.funcs Tryz.prog)[f]? = some fn) : true = Program.looks Tryz.prog [] ∧ ∀ (j : Nat) t, fn.params[j]? = some t → Program.wantsStandIn Tryz.prog t = false := by
  obtain rfl : f = 13 := Option.some.inj ((show Program.funcNamed Tryz.prog "loop.example/g01211/laws.FnExactTailsOf" = some 13 by kernel_rfl).symm.trans hf) |>.symm
  obtain rfl : fn = Tryz.f13 := (Option.some.inj (Tryz.func13.symm.trans hfn)).symm
  exact ⟨looks_p, fun j t ht => by
    rw [Tryz.params13] at ht
    have hm : t ∈ [22] := by simpa using Array.mem_of_getElem? ht
    have hall : ([22].all fun u => !Program.wantsStandIn Tryz.prog u) = true := by kernel_rfl
    exact (show Program.wantsStandIn Tryz.prog t = false by simpa using List.all_eq_true.1 hall t hm)⟩
set_option maxRecDepth 100000 in
theorem text_TailsOf : Rows.fnExactTailsOfRow.wfByText (OpenSpec.ofChange Rows.fnExactTailsOfSpec) = true := by kernel_rfl
set_option maxRecDepth 100000 in
theorem fnExactTailsOfCard_holds : Rows.FnExactTailsOfCardSaid :=
  Claim7.holds_tied_plain_at .later [] [.data, .data, .data, .sentinel, .sentinel] true Rows.fnExactTailsOfCard.stood.harness true
    row_TailsOf (fun _ h => by cases h) text_TailsOf (fun _ h => by cases h) fnExactTailsOf_row_tie rfl ⟨rfl, rfl⟩ main_p rfl ask_TailsOf goes_TailsOf
#print axioms fnExactTailsOfCard_holds
end Go.Proofs.YtfhpphmdpjebcaaGreatDoor
