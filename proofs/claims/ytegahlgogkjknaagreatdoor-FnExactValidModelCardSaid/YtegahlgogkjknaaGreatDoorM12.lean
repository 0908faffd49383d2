/- Part 12 of 14 of the proof that stands in YtegahlgogkjknaaGreatDoorM14. -/
import Derived.Test.YtegahlgogkjknaaGreatDoorCards
import Derived.Test.YtegahlgogkjknaaGreatDoorTie
import Derived.Test.YtegahlgogkjknaaGreatDoorM11

set_option linter.unusedVariables false
set_option linter.unusedSimpArgs false

/- What the rows ask of the program as0 a whole: each fact apart, so that the kernel gives its memory back. -/
set_option linter.unusedSimpArgs false
set_option linter.unusedVariables false
namespace Go.Proofs.YtegahlgogkjknaaGreatDoor
open Go

theorem own_p : ownKnob Tryz.prog.godebug = none := by kernel_rfl
set_option maxRecDepth 100000 in
theorem laidOut_p : laidOutB Tryz.prog = true := by kernel_rfl
set_option maxRecDepth 100000 in
theorem rowed_p : mapsRowed Tryz.prog = true := by kernel_rfl
set_option maxRecDepth 100000 in
theorem keys_p : Program.plainKeys Tryz.prog = Rows.fnExactValidModelRow.plainKeys := by kernel_rfl
set_option maxRecDepth 100000 in
theorem heard_p : Program.stopsHeard Tryz.prog = true := by kernel_rfl
set_option maxRecDepth 100000 in
theorem may_p : Program.mayEnter Tryz.prog = true := by kernel_rfl
set_option maxRecDepth 100000 in
theorem lift_p : Program.liftsFinal Tryz.prog = Rows.fnExactValidModelRow.lifted := by kernel_rfl
set_option maxRecDepth 100000 in
theorem make_p : Program.make Tryz.prog = some Rows.fnExactValidModelRow.make := by kernel_rfl
theorem fit_bool {P : Program} {t : TypeId} (h : P.underlying t = some .bool) : Cl.fit P .bool t := h
theorem fit_sl {P : Program} {t e : TypeId} {c : Cl} (h : P.underlying t = some (.slice e)) (h1 : P.cellsOf e = 1) (h2 : szT P e = 1) (h3 : 0 < P.bytesOf e) (h4 : c.fit P e) : Cl.fit P (.sl e c) t := ⟨h, h1, h2, h3, h4⟩
end Go.Proofs.YtegahlgogkjknaaGreatDoor
