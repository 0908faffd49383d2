/- The law of ValidModel: the tied card -/
import Derived.Test.YtegahlgogkjknaaGreatDoorM13

set_option linter.unusedVariables false
set_option linter.unusedSimpArgs false

/- The law of ValidModel: the tied card. -/
set_option linter.unusedSimpArgs false
set_option linter.unusedVariables false
namespace Go.Proofs.YtegahlgogkjknaaGreatDoor
open Go

set_option maxRecDepth 100000 in
theorem looks_p : true = Program.looks Tryz.prog [] := by kernel_rfl
set_option maxRecDepth 100000 in
theorem main_p : Program.mainIs Tryz.prog = some (Rows.fnExactValidModelCard.stood.harness.1, Rows.fnExactValidModelCard.stood.harness.2.toList) := by kernel_rfl
set_option maxRecDepth 100000 in
theorem goes_ValidModel : false = Rows.fnExactValidModelRow.goesBy Tryz.prog := by kernel_rfl
set_option maxRecDepth 100000 in
theorem ask_ValidModel (f : FuncId) (fn : Func) (hf : Program.funcNamed Tryz.prog Rows.fnExactValidModelRow.func = some f) (hfn : (Program.funcs Tryz.prog)[f]? = some fn) : true = Program.looks Tryz.prog [] ∧ ∀ (j : Nat) t, fn.params[j]? = some t → Program.wantsStandIn Tryz.prog t = false := by
  obtain rfl : f = 3 := Option.some.inj ((show Program.funcNamed Tryz.prog "loop.example/g01211/laws.FnExactValidModel" = some 3 by kernel_rfl).symm.trans hf) |>.symm
  obtain rfl : fn = Tryz.f3 := (Option.some.inj (Tryz.func3.symm.trans hfn)).symm
  exact ⟨looks_p, fun j t ht => by
    rw [Tryz.params3] at ht
    have hm : t ∈ [23] := by simpa using Array.mem_of_getElem? ht
    have hall : ([23].all fun u => !Program.wantsStandIn Tryz.prog u) = true := by kernel_rfl
    exact (show Program.wantsStandIn Tryz.prog t = false by simpa using List.all_eq_true.1 hall t hm)⟩
set_option maxRecDepth 100000 in
theorem text_ValidModel : Rows.fnExactValidModelRow.wfByText (OpenSpec.ofChange Rows.fnExactValidModelSpec) = true := by kernel_rfl
set_option maxRecDepth 100000 in
theorem fnExactValidModelCard_holds : Rows.FnExactValidModelCardSaid :=
  Claim7.holds_tied_plain_at .later [] [.data, .data, .data, .sentinel, .sentinel] true Rows.fnExactValidModelCard.stood.harness true
    row_ValidModel (fun _ h => by cases h) text_ValidModel (fun _ h => by cases h) fnExactValidModel_row_tie rfl ⟨rfl, rfl⟩ main_p rfl ask_ValidModel goes_ValidModel
#print axioms fnExactValidModelCard_holds
end Go.Proofs.YtegahlgogkjknaaGreatDoor
