/- Part 13 of 14 of the proof that stands in YtegahlgogkjknaaGreatDoorM14. -/
import Derived.Test.YtegahlgogkjknaaGreatDoorM12

set_option linter.unusedVariables false
set_option linter.unusedSimpArgs false

/- The law of ValidModel: its row. -/
set_option linter.unusedSimpArgs false
set_option linter.unusedVariables false
namespace Go.Proofs.YtegahlgogkjknaaGreatDoor
open Go Go.ChangeShapes Go.WideShapes Go.ChangeAt Go.RowKit

abbrev laidXP : List (String × DataW Unit) := Rows.fnExactValidModelRow.laid
set_option maxRecDepth 100000 in
/-- The door's own heap meets the condition: three closed facts. -/
theorem door_metP (os : Os) (args : Array Value) : laidMetH Tryz.prog laidXP ((World.doorLaid Tryz.prog 400 os).forCall (fun _ _ => 0) ⟨#[], args, []⟩).memory :=
  laidMetH_of_parts3 (fuel := 8) (laidMet_of_run' 8 (by kernel_rfl) (by kernel_rfl)) (by kernel_rfl) (by kernel_rfl)

def tyModel : Ty := .st [.int .i64, .str, .str, .str, .str]
theorem isT_model {x : AV} (h : isT tyModel x) : ∃ m : Mdl, x = m.av ∧ m.lens ∧ (Lit.int .i64 m.room).wf = true := by
  obtain ⟨xs, rfl, h⟩ := h
  obtain ⟨_, _, rfl, ⟨n, rfl, hn⟩, _, _, rfl, ⟨s1, rfl, h1⟩, _, _, rfl, ⟨s2, rfl, h2⟩, _, _, rfl, ⟨s3, rfl, h3⟩, _, _, rfl, ⟨s4, rfl, h4⟩, rfl⟩ := h
  exact ⟨⟨n, s1, s2, s3, s4⟩, rfl, ⟨h1, h2, h3, h4⟩, hn⟩
theorem fit_int {P : Program} {k : IntKind} {t : TypeId} (h : P.underlying t = some (.int k)) : Cl.fit P (.int k) t := h
theorem fit_str {P : Program} {t : TypeId} (h : P.underlying t = some .string) : Cl.fit P .str t := h
theorem tyModel_fit : tyModel.fit Tryz.prog 23 := ⟨_, Tryz.underlying23, by kernel_rfl, rfl, by kernel_rfl, fit_int Tryz.underlying2, rfl, by kernel_rfl, fit_str Tryz.underlying9, rfl, by kernel_rfl, fit_str Tryz.underlying9, rfl, by kernel_rfl, fit_str Tryz.underlying9, rfl, by kernel_rfl, fit_str Tryz.underlying9, trivial⟩

theorem lawOk_ValidModel : LawOk Tryz.prog 3 [tyModel] := by
  intro xs h
  obtain ⟨x, _, rfl, hx, rfl⟩ := h
  obtain ⟨m, rfl, hm, _⟩ := isT_model hx
  exact law_ValidModel m hm

set_option maxRecDepth 100000 in
theorem lifted_ValidModel (os : Os) (started : os.Started) (H : Type) (enc : TypeId × Value → H) :
    ReturnsInHanded {} Tryz.checked os 3 .any (fun w args => (Rows.fnExactValidModelSpec.pre enc Tryz.prog Tryz.f3 [] false w args ∧ laidMetH Tryz.prog laidXP w) ∧ sizedMet enc Tryz.prog Tryz.f3 (OpenSpec.ofChange Rows.fnExactValidModelSpec) false w args)
      (Rows.fnExactValidModelSpec.post enc Tryz.prog Tryz.f3 false true false false) :=
  LawOk.lifted (C := Tryz.checked) (X := fun w _ => laidMetH Tryz.prog laidXP w) (ts := [23]) (rt := 4) own_p started lawOk_ValidModel (fun _ _ _ hh h => h.of_heap hh) (by kernel_rfl) Tryz.func3
    (by kernel_rfl) (by kernel_rfl) Tryz.underlying4 ⟨tyModel_fit, trivial⟩ laidOut_p (by kernel_rfl) rfl (fun ds h => by match ds, h with | [_], _ => rfl)
    (ChangeSpec.witness_shaped (enc := enc) (C := Tryz.checked) (os := os) (X := fun w _ => laidMetH Tryz.prog laidXP w) false (World.doorLaid Tryz.prog 400 os) #[.agg #[.int .i64 0, .string .empty, .string .empty, .string .empty, .string .empty]] 8 rfl (World.shaped_of_RefB (by kernel_rfl) (by kernel_rfl)) (by kernel_rfl) (by kernel_rfl) (by kernel_rfl) (door_metP os _))

set_option maxRecDepth 100000 in
theorem inPlace_ValidModel : Program.inPlace Tryz.prog 3 = Rows.fnExactValidModelRow.inPlace := by kernel_rfl
set_option maxRecDepth 100000 in
theorem unfollowed_ValidModel : Program.unfollowed Tryz.prog 3 = Rows.fnExactValidModelRow.unfollowed := by kernel_rfl
set_option maxRecDepth 100000 in
theorem recurses_ValidModel : Program.recurses Tryz.prog 3 = Rows.fnExactValidModelRow.recurses := by kernel_rfl
set_option maxRecDepth 100000 in
theorem named_ValidModel : Program.varsNamed Tryz.prog 3 = Rows.fnExactValidModelRow.named := by kernel_rfl
set_option maxRecDepth 100000 in
theorem closed_ValidModel : joinedFacts Tryz.prog 3 Tryz.f3 Rows.fnExactValidModelSpec Rows.fnExactValidModelRow = true := by
  unfold joinedFacts
  rw [laidOut_p, rowed_p, keys_p, heard_p, may_p, lift_p, make_p, inPlace_ValidModel, unfollowed_ValidModel, recurses_ValidModel, named_ValidModel]
  kernel_rfl
set_option maxRecDepth 100000 in
theorem row_ValidModel : Rows.FnExactValidModelSaid :=
  OpenClaim.holds_of_wide 3 Tryz.f3 rfl rfl rfl rfl rfl rfl rfl ⟨rfl, rfl, rfl, rfl, rfl⟩ rfl rfl rfl rfl rfl (by kernel_rfl) Tryz.func3 closed_ValidModel
    (of_decide_eq_true (by kernel_rfl)) (by unfold Func.isWrapper; first | (rw [if_pos (by decide +kernel)]; kernel_rfl) | (rw [if_neg (by decide +kernel)]; exact ⟨rfl, rfl⟩))
    (fun os started H enc _ => lifted_ValidModel os started H enc)

end Go.Proofs.YtegahlgogkjknaaGreatDoor
