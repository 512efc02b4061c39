/-
  FieldFills: each returns true whatever the input.
-/
import Derived.Test.YtamaonfdonfkaaaRows
import Derived.Test.YtamaonfdonfkaaaAwOpen
import Derived.Test.YtamaonfdonfkaaaPFill
set_option linter.unusedSimpArgs false
set_option linter.unusedVariables false
namespace Go.Proofs.Ytamaonfdonfkaaa
open Go.ChangeShapes Go.WideShapes Go.ChangeMaps Go.ChangeAt Go.RowKit Aw

theorem Try.own : ownKnob Try.prog.godebug = none := by kernel_rfl
theorem Try.laidOut : laidOutB Try.prog = true := by kernel_rfl

set_option maxRecDepth 100000 in
theorem fieldFills_lifted (os : Os) (started : os.Started) (H : Type) (enc : TypeId × Value → H) :
    ReturnsInHanded {} Try.checked os 11 .any (Rows.fieldFillsSpec.pre6 enc Try.prog Try.f11 Rows.fieldFillsRow.domain false) (Rows.fieldFillsSpec.post enc Try.prog Try.f11 false true false false) := by
  refine returnsInHanded_of_change (C := Try.checked) Try.own started (by kernel_rfl) Try.func11
    (ChangeSpec.witness6 (enc := enc) (C := Try.checked) false ⟨#[], #[.string ⟨#[]⟩, .int .i64 0, .int .u8 0], []⟩ 8 (by kernel_rfl) (by kernel_rfl) (by kernel_rfl) (by kernel_rfl)) ?_
  intro W base args ds gs before hval hW hcnd _
  refine closes_sh (shs := [.str, .int .i64, .int .u8]) Try.laidOut hval hW (by kernel_rfl) rfl (by kernel_rfl) Try.underlying4 (fun hl e => ?_) (by kernel_rfl) fills_fit
  subst e
  match ds, hl with
  | [d0, d1, d2], _ => rfl

theorem fieldFills_holds : Rows.FieldFillsSaid :=
  OpenClaim.holds_of_wide 11 Try.f11 rfl rfl rfl rfl rfl rfl rfl ⟨rfl, rfl, rfl, rfl, rfl⟩ rfl rfl rfl rfl rfl (by kernel_rfl) Try.func11 (by kernel_rfl)
    (of_decide_eq_true (by kernel_rfl)) (by unfold Func.isWrapper; first | (rw [if_pos (by decide +kernel)]; kernel_rfl) | (rw [if_neg (by decide +kernel)]; exact ⟨rfl, rfl⟩))
    (fun os started H enc _ => fieldFills_lifted os started H enc)


end Go.Proofs.Ytamaonfdonfkaaa
