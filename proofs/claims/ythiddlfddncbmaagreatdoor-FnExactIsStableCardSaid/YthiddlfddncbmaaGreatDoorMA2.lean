/- A part of the proof. -/
import Derived.Test.YthiddlfddncbmaaGreatDoorMA1

set_option linter.unusedVariables false
set_option linter.unusedSimpArgs false
set_option maxRecDepth 100000
namespace Go.Proofs.YthiddlfddncbmaaGreatDoor
open Go

section
open Go Go.ChangeShapes Go.WideShapes Go.ChangeAt Go.RowKit
abbrev laid_IsStable : List (String × DataW Unit) := Rows.fnExactIsStableRow.laid
set_option maxRecDepth 100000 in
theorem IW (os : Os) (args : Array Value) : laidMetH Tryz.prog laid_IsStable ((World.doorLaid Tryz.prog 400 os).forCall (fun _ _ => 0) ⟨#[], args, []⟩).memory :=
 laidMetH_of_parts3 (fuel := 8) (laidMet_of_run' 8 zK zK) zK zK
theorem IX (w : World) (h : laidMetH Tryz.prog laid_IsStable w) : ∀ g, Program.globalNamed Tryz.prog tabName = some g → Lib.TabIs Tryz.prog w tabName .u64 tabNums := YC 2 zK (show List.drop 2 Rows.fnExactIsStableRow.laid = (tabName, Lib.tabData .u64 tabNums) :: List.drop 3 Rows.fnExactIsStableRow.laid by kernel_rfl) h
set_option maxRecDepth 100000 in
theorem KL : tysFit Tryz.prog [.st [.sl 9 (.str), .sl 9 (.str), .sl 22 (.sl 9 (.str))]] [25] := ⟨⟨_, Tryz.underlying25, zK, rfl, zK, KJ Tryz.underlying22 zK zK (of_decide_eq_true zK) (KI Tryz.underlying9), rfl, zK, KJ Tryz.underlying22 zK zK (of_decide_eq_true zK) (KI Tryz.underlying9), rfl, zK, KJ Tryz.underlying23 zK zK (of_decide_eq_true zK) (KJ Tryz.underlying22 zK zK (of_decide_eq_true zK) (KI Tryz.underlying9)), trivial⟩, trivial⟩
set_option maxRecDepth 100000 in
theorem G3 (os : Os) (started : os.Started) (H : Type) (enc : TypeId × Value → H) :
  ReturnsInHanded {} Tryz.checked os 3 .any (fun w args => (Rows.fnExactIsStableSpec.pre enc Tryz.prog Tryz.f3 [] false w args ∧ laidMetH Tryz.prog laid_IsStable w) ∧ sizedMet enc Tryz.prog Tryz.f3 (OpenSpec.ofChange Rows.fnExactIsStableSpec) false w args)
   (Rows.fnExactIsStableSpec.post enc Tryz.prog Tryz.f3 false true false false) :=
 LawOk.lifted (C := Tryz.checked) (X := fun w _ => laidMetH Tryz.prog laid_IsStable w) (ts := [25]) (rt := 4) YA started IM (fun _ _ _ hh h => h.of_heap hh) (fun w _ h => IX w h) zK Tryz.func3
  zK zK Tryz.underlying4 KL JP zK rfl (fun ds h => by match ds, h with | [_], _ => rfl)
  (ChangeSpec.witness_shaped (enc := enc) (C := Tryz.checked) (os := os) (X := fun w _ => laidMetH Tryz.prog laid_IsStable w) false (World.doorLaid Tryz.prog 400 os) #[.agg #[.slice none 0 0, .slice none 0 0, .slice none 0 0]] 8 rfl (World.shaped_of_RefB zK zK) zK zK zK (IW os _))
set_option maxRecDepth 100000 in
theorem GZ : Program.inPlace Tryz.prog 3 = Rows.fnExactIsStableRow.inPlace := by kernel_rfl
set_option maxRecDepth 100000 in
theorem FD : Program.unfollowed Tryz.prog 3 = Rows.fnExactIsStableRow.unfollowed := by kernel_rfl
set_option maxRecDepth 100000 in
theorem F5 : Program.recurses Tryz.prog 3 = Rows.fnExactIsStableRow.recurses := by kernel_rfl
set_option maxRecDepth 100000 in
theorem IN : Program.varsNamed Tryz.prog 3 = Rows.fnExactIsStableRow.named := by kernel_rfl
set_option maxRecDepth 100000 in
theorem G4 : joinedFacts Tryz.prog 3 Tryz.f3 Rows.fnExactIsStableSpec Rows.fnExactIsStableRow = true := by
 unfold joinedFacts
 rw [JP, Ud, Wo, Ue, YB, Wp, Wq, GZ, FD, F5, IN]
 kernel_rfl
set_option maxRecDepth 100000 in
theorem KM : Rows.FnExactIsStableSaid :=
 OpenClaim.holds_of_wide 3 Tryz.f3 rfl rfl rfl rfl rfl rfl rfl ⟨rfl, rfl, rfl, rfl, rfl⟩ rfl rfl rfl rfl rfl zK Tryz.func3 G4
  (of_decide_eq_true zK) (by unfold Func.isWrapper; first | (rw [if_pos (by decide +kernel)]; kernel_rfl) | (rw [if_neg (by decide +kernel)]; exact ⟨rfl, rfl⟩))
  (fun os started H enc _ => G3 os started H enc)
end
end Go.Proofs.YthiddlfddncbmaaGreatDoor
