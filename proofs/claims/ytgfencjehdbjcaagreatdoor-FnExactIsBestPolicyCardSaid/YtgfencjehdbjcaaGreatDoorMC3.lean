/- The program's IsBestPolicy answers as the reference's for all models and acts; condition: the listed variables start as the program lays them. -/
import Derived.Test.YtgfencjehdbjcaaGreatDoorMC2

set_option linter.unusedVariables false
set_option linter.unusedSimpArgs false
set_option maxRecDepth 100000
namespace Go.Proofs.YtgfencjehdbjcaaGreatDoor
open Go

set_option maxRecDepth 100000 in
theorem looks_p : true = Program.looks Tryz.prog [] := by kernel_rfl
set_option maxRecDepth 100000 in
theorem main_p : Program.mainIs Tryz.prog = some (Rows.fnExactIsBestPolicyCard.stood.harness.1, Rows.fnExactIsBestPolicyCard.stood.harness.2.toList) := by kernel_rfl
set_option maxRecDepth 100000 in
theorem goes_IsBestPolicy : false = Rows.fnExactIsBestPolicyRow.goesBy Tryz.prog := by kernel_rfl
set_option maxRecDepth 100000 in
theorem ask_IsBestPolicy (f : FuncId) (fn : Func) (hf : Program.funcNamed Tryz.prog Rows.fnExactIsBestPolicyRow.func = some f) (hfn : (Program.funcs Tryz.prog)[f]? = some fn) : true = Program.looks Tryz.prog [] ∧ ∀ (j : Nat) t, fn.params[j]? = some t → Program.wantsStandIn Tryz.prog t = false := by
 obtain rfl : f = 4 := Option.some.inj ((show Program.funcNamed Tryz.prog "loop.example/g01211/laws.FnExactIsBestPolicy" = some 4 by kernel_rfl).symm.trans hf) |>.symm
 obtain rfl : fn = Tryz.f4 := (Option.some.inj (Tryz.func4.symm.trans hfn)).symm
 exact ⟨looks_p, fun j t ht => by
  rw [Tryz.params4] at ht
  have hm : t ∈ [23, 25] := by simpa using Array.mem_of_getElem? ht
  have hall : ([23, 25].all fun u => !Program.wantsStandIn Tryz.prog u) = true := by kernel_rfl
  exact (show Program.wantsStandIn Tryz.prog t = false by simpa using List.all_eq_true.1 hall t hm)⟩
set_option maxRecDepth 100000 in
theorem text_IsBestPolicy : Rows.fnExactIsBestPolicyRow.wfByText (OpenSpec.ofChange Rows.fnExactIsBestPolicySpec) = true := by kernel_rfl
set_option maxRecDepth 100000 in
theorem fnExactIsBestPolicyCard_holds : Rows.FnExactIsBestPolicyCardSaid :=
 Claim7.holds_tied_plain_at .later [] [.data, .data, .data, .sentinel, .sentinel] true Rows.fnExactIsBestPolicyCard.stood.harness true
  row_IsBestPolicy (fun _ h => by cases h) text_IsBestPolicy (fun _ h => by cases h) fnExactIsBestPolicy_row_tie rfl ⟨rfl, rfl⟩ main_p rfl ask_IsBestPolicy goes_IsBestPolicy
#print axioms fnExactIsBestPolicyCard_holds
end Go.Proofs.YtgfencjehdbjcaaGreatDoor
