/- Ground 13. -/
import Derived.Test.YtdljcbbodihagaaGreatDoorCards
import Derived.Test.YtdljcbbodihagaaGreatDoorTie
import Derived.Test.YtdljcbbodihagaaGreatDoorM12

set_option linter.unusedVariables false
set_option linter.unusedSimpArgs false
set_option maxRecDepth 100000
namespace Go.Proofs.YtdljcbbodihagaaGreatDoor
open Go

theorem own_p : ownKnob Tryz.prog.godebug = none := by kernel_rfl
set_option maxRecDepth 100000 in
theorem laidOut_p : laidOutB Tryz.prog = true := by kernel_rfl
set_option maxRecDepth 100000 in
theorem rowed_p : mapsRowed Tryz.prog = true := by kernel_rfl
set_option maxRecDepth 100000 in
theorem keys_p : Program.plainKeys Tryz.prog = Rows.fnExactValidNetworkRow.plainKeys := by kernel_rfl
set_option maxRecDepth 100000 in
theorem heard_p : Program.stopsHeard Tryz.prog = true := by kernel_rfl
set_option maxRecDepth 100000 in
theorem may_p : Program.mayEnter Tryz.prog = true := by kernel_rfl
set_option maxRecDepth 100000 in
theorem lift_p : Program.liftsFinal Tryz.prog = Rows.fnExactValidNetworkRow.lifted := by kernel_rfl
set_option maxRecDepth 100000 in
theorem make_p : Program.make Tryz.prog = some Rows.fnExactValidNetworkRow.make := by kernel_rfl
theorem tab_p {l : List (String × DataW Unit)} {w : World} (k : Nat) (hp : (l.filter fun x => x.2.handleName?.isSome) = []) (hk : l.drop k = (tabName, Lib.tabData .u64 tabNums) :: l.drop (k + 1)) (h : laidMetH Tryz.prog l w) : ∀ g', Program.globalNamed Tryz.prog tabName = some g' → Lib.TabIs Tryz.prog w tabName .u64 tabNums :=
 tab_of_laid (g := 3) (t := 169) (e := 97) (n := 20) k (by kernel_rfl) (by kernel_rfl) Tryz.underlying169 Tryz.underlying97 (by kernel_rfl) (by kernel_rfl) hp hk h
theorem fit_str {P : Program} {t : TypeId} (h : P.underlying t = some .string) : Cl.fit P .str t := h
theorem fit_sl {P : Program} {t e : TypeId} {c : Cl} (h : P.underlying t = some (.slice e)) (h1 : P.cellsOf e = 1) (h2 : szT P e = 1) (h3 : 0 < P.bytesOf e) (h4 : c.fit P e) : Cl.fit P (.sl e c) t := ⟨h, h1, h2, h3, h4⟩
end Go.Proofs.YtdljcbbodihagaaGreatDoor
