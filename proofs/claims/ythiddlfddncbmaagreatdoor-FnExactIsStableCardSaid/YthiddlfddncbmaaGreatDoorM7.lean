/- Ground 7. -/
import Derived.Test.YthiddlfddncbmaaGreatDoorCards
import Derived.Test.YthiddlfddncbmaaGreatDoorTie
import Derived.Test.YthiddlfddncbmaaGreatDoorM6

set_option linter.unusedVariables false
set_option linter.unusedSimpArgs false
set_option maxRecDepth 100000
namespace Go.Proofs.YthiddlfddncbmaaGreatDoor
open Go

theorem YA : ownKnob Tryz.prog.godebug = none := by kernel_rfl
set_option maxRecDepth 100000 in
theorem JP : laidOutB Tryz.prog = true := by kernel_rfl
set_option maxRecDepth 100000 in
theorem Ud : mapsRowed Tryz.prog = true := by kernel_rfl
set_option maxRecDepth 100000 in
theorem Wo : Program.plainKeys Tryz.prog = Rows.fnExactIsStableRow.plainKeys := by kernel_rfl
set_option maxRecDepth 100000 in
theorem Ue : Program.stopsHeard Tryz.prog = true := by kernel_rfl
set_option maxRecDepth 100000 in
theorem YB : Program.mayEnter Tryz.prog = true := by kernel_rfl
set_option maxRecDepth 100000 in
theorem Wp : Program.liftsFinal Tryz.prog = Rows.fnExactIsStableRow.lifted := by kernel_rfl
set_option maxRecDepth 100000 in
theorem Wq : Program.make Tryz.prog = some Rows.fnExactIsStableRow.make := by kernel_rfl
theorem YC {l : List (String × DataW Unit)} {w : World} (k : Nat) (hp : (l.filter fun x => x.2.handleName?.isSome) = []) (hk : l.drop k = (tabName, Lib.tabData .u64 tabNums) :: l.drop (k + 1)) (h : laidMetH Tryz.prog l w) : ∀ g', Program.globalNamed Tryz.prog tabName = some g' → Lib.TabIs Tryz.prog w tabName .u64 tabNums :=
 Lb (g := 0) (t := 196) (e := 113) (n := 20) k zK zK Tryz.underlying196 Tryz.underlying113 zK zK hp hk h
theorem KI {P : Program} {t : TypeId} (h : P.underlying t = some .string) : Cl.fit P .str t := h
theorem KJ {P : Program} {t e : TypeId} {c : Cl} (h : P.underlying t = some (.slice e)) (h1 : P.cellsOf e = 1) (h2 : szT P e = 1) (h3 : 0 < P.bytesOf e) (h4 : c.fit P e) : Cl.fit P (.sl e c) t := ⟨h, h1, h2, h3, h4⟩
end Go.Proofs.YthiddlfddncbmaaGreatDoor
