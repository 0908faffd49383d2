/- The program's ValidNetwork answers as the reference's for all networks; condition: the listed variables start as the program lays them. -/
import Derived.Test.YtdljcbbodihagaaGreatDoorMA2

set_option linter.unusedVariables false
set_option linter.unusedSimpArgs false
set_option maxRecDepth 100000
namespace Go.Proofs.YtdljcbbodihagaaGreatDoor
open Go

set_option maxRecDepth 100000 in
theorem looks_p : true = Program.looks Tryz.prog [] := by kernel_rfl
set_option maxRecDepth 100000 in
theorem main_p : Program.mainIs Tryz.prog = some (Rows.fnExactValidNetworkCard.stood.harness.1, Rows.fnExactValidNetworkCard.stood.harness.2.toList) := by kernel_rfl
set_option maxRecDepth 100000 in
theorem goes_ValidNetwork : false = Rows.fnExactValidNetworkRow.goesBy Tryz.prog := by kernel_rfl
set_option maxRecDepth 100000 in
theorem ask_ValidNetwork (f : FuncId) (fn : Func) (hf : Program.funcNamed Tryz.prog Rows.fnExactValidNetworkRow.func = some f) (hfn : (Program.funcs Tryz.prog)[f]? = some fn) : true = Program.looks Tryz.prog [] ∧ ∀ (j : Nat) t, fn.params[j]? = some t → Program.wantsStandIn Tryz.prog t = false := by
 obtain rfl : f = 3 := Option.some.inj ((show Program.funcNamed Tryz.prog "loop.example/g01211/laws.FnExactValidNetwork" = some 3 by kernel_rfl).symm.trans hf) |>.symm
 obtain rfl : fn = Tryz.f3 := (Option.some.inj (Tryz.func3.symm.trans hfn)).symm
 exact ⟨looks_p, fun j t ht => by
  rw [Tryz.params3] at ht
  have hm : t ∈ [25] := by simpa using Array.mem_of_getElem? ht
  have hall : ([25].all fun u => !Program.wantsStandIn Tryz.prog u) = true := by kernel_rfl
  exact (show Program.wantsStandIn Tryz.prog t = false by simpa using List.all_eq_true.1 hall t hm)⟩
set_option maxRecDepth 100000 in
theorem text_ValidNetwork : Rows.fnExactValidNetworkRow.wfByText (OpenSpec.ofChange Rows.fnExactValidNetworkSpec) = true := by kernel_rfl
set_option maxRecDepth 100000 in
theorem fnExactValidNetworkCard_holds : Rows.FnExactValidNetworkCardSaid :=
 Claim7.holds_tied_plain_at .later [] [.data, .data, .data, .sentinel, .sentinel] true Rows.fnExactValidNetworkCard.stood.harness true
  row_ValidNetwork (fun _ h => by cases h) text_ValidNetwork (fun _ h => by cases h) fnExactValidNetwork_row_tie rfl ⟨rfl, rfl⟩ main_p rfl ask_ValidNetwork goes_ValidNetwork
#print axioms fnExactValidNetworkCard_holds
end Go.Proofs.YtdljcbbodihagaaGreatDoor
