/- The program's ImproveActs answers as the reference's; condition: the listed variables start as the program lays them. -/
import Derived.Test.YtgfencjehdbjcaaGreatDoorMD2

set_option linter.unusedVariables false
set_option linter.unusedSimpArgs false
set_option maxRecDepth 100000
namespace Go.Proofs.YtgfencjehdbjcaaGreatDoor
open Go

set_option maxRecDepth 100000 in
theorem looks_p : true = Program.looks Tryz.prog [] := by kernel_rfl
set_option maxRecDepth 100000 in
theorem main_p : Program.mainIs Tryz.prog = some (Rows.fnExactImproveActsCard.stood.harness.1, Rows.fnExactImproveActsCard.stood.harness.2.toList) := by kernel_rfl
set_option maxRecDepth 100000 in
theorem goes_ImproveActs : false = Rows.fnExactImproveActsRow.goesBy Tryz.prog := by kernel_rfl
set_option maxRecDepth 100000 in
theorem ask_ImproveActs (f : FuncId) (fn : Func) (hf : Program.funcNamed Tryz.prog Rows.fnExactImproveActsRow.func = some f) (hfn : (Program.funcs Tryz.prog)[f]? = some fn) : true = Program.looks Tryz.prog [] ∧ ∀ (j : Nat) t, fn.params[j]? = some t → Program.wantsStandIn Tryz.prog t = false := by
 obtain rfl : f = 5 := Option.some.inj ((show Program.funcNamed Tryz.prog "loop.example/g01211/laws.FnExactImproveActs" = some 5 by kernel_rfl).symm.trans hf) |>.symm
 obtain rfl : fn = Tryz.f5 := (Option.some.inj (Tryz.func5.symm.trans hfn)).symm
 exact ⟨looks_p, fun j t ht => by
  rw [Tryz.params5] at ht
  have hm : t ∈ [23, 25] := by simpa using Array.mem_of_getElem? ht
  have hall : ([23, 25].all fun u => !Program.wantsStandIn Tryz.prog u) = true := by kernel_rfl
  exact (show Program.wantsStandIn Tryz.prog t = false by simpa using List.all_eq_true.1 hall t hm)⟩
set_option maxRecDepth 100000 in
theorem text_ImproveActs : Rows.fnExactImproveActsRow.wfByText (OpenSpec.ofChange Rows.fnExactImproveActsSpec) = true := by kernel_rfl
set_option maxRecDepth 100000 in
theorem fnExactImproveActsCard_holds : Rows.FnExactImproveActsCardSaid :=
 Claim7.holds_tied_plain_at .later [] [.data, .data, .data, .sentinel, .sentinel] true Rows.fnExactImproveActsCard.stood.harness true
  row_ImproveActs (fun _ h => by cases h) text_ImproveActs (fun _ h => by cases h) fnExactImproveActs_row_tie rfl ⟨rfl, rfl⟩ main_p rfl ask_ImproveActs goes_ImproveActs
#print axioms fnExactImproveActsCard_holds
end Go.Proofs.YtgfencjehdbjcaaGreatDoor
