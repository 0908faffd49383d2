/- The program's IsStable answers as the reference's for all networks; condition: the listed variables start as the program lays them. -/
import Derived.Test.YthiddlfddncbmaaGreatDoorMA2

set_option linter.unusedVariables false
set_option linter.unusedSimpArgs false
set_option maxRecDepth 100000
namespace Go.Proofs.YthiddlfddncbmaaGreatDoor
open Go

set_option maxRecDepth 100000 in
theorem Uf : true = Program.looks Tryz.prog [] := by kernel_rfl
set_option maxRecDepth 100000 in
theorem Wr : Program.mainIs Tryz.prog = some (Rows.fnExactIsStableCard.stood.harness.1, Rows.fnExactIsStableCard.stood.harness.2.toList) := by kernel_rfl
set_option maxRecDepth 100000 in
theorem IY : false = Rows.fnExactIsStableRow.goesBy Tryz.prog := by kernel_rfl
set_option maxRecDepth 100000 in
theorem KO (f : FuncId) (fn : Func) (hf : Program.funcNamed Tryz.prog Rows.fnExactIsStableRow.func = some f) (hfn : (Program.funcs Tryz.prog)[f]? = some fn) : true = Program.looks Tryz.prog [] ∧ ∀ (j : Nat) t, fn.params[j]? = some t → Program.wantsStandIn Tryz.prog t = false := by
 obtain rfl : f = 3 := Option.some.inj ((show Program.funcNamed Tryz.prog "loop.example/g01211/laws.FnExactIsStable" = some 3 by kernel_rfl).symm.trans hf) |>.symm
 obtain rfl : fn = Tryz.f3 := (Option.some.inj (Tryz.func3.symm.trans hfn)).symm
 exact ⟨Uf, fun j t ht => by
  rw [Tryz.params3] at ht
  have hm : t ∈ [25] := by simpa using Array.mem_of_getElem? ht
  have hall : ([25].all fun u => !Program.wantsStandIn Tryz.prog u) = true := by kernel_rfl
  exact (show Program.wantsStandIn Tryz.prog t = false by simpa using List.all_eq_true.1 hall t hm)⟩
set_option maxRecDepth 100000 in
theorem IZ : Rows.fnExactIsStableRow.wfByText (OpenSpec.ofChange Rows.fnExactIsStableSpec) = true := by kernel_rfl
set_option maxRecDepth 100000 in
theorem fnExactIsStableCard_holds : Rows.FnExactIsStableCardSaid :=
 Claim7.holds_tied_plain_at .later [] [.data, .data, .data, .sentinel, .sentinel] true Rows.fnExactIsStableCard.stood.harness true
  KM (fun _ h => by cases h) IZ (fun _ h => by cases h) fnExactIsStable_row_tie rfl ⟨rfl, rfl⟩ Wr rfl KO IY
#print axioms fnExactIsStableCard_holds
end Go.Proofs.YthiddlfddncbmaaGreatDoor
