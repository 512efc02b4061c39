/-
  RootNewest: each returns true whatever the input.
-/
import Derived.Test.YtklniadgdbjcpaaRows
import Derived.Test.YtklniadgdbjcpaaAwOpen
import Derived.Test.YtklniadgdbjcpaaLNew
set_option linter.unusedSimpArgs false
set_option linter.unusedVariables false
namespace Go.Proofs.Ytklniadgdbjcpaa
open Go.ChangeShapes Go.WideShapes Go.ChangeMaps Go.ChangeAt Go.RowKit Aw

theorem Try.own : ownKnob Try.prog.godebug = none := by kernel_rfl
theorem Try.laidOut : laidOutB Try.prog = true := by kernel_rfl

set_option maxRecDepth 100000 in
theorem rootNewest_lifted (os : Os) (started : os.Started) (H : Type) (enc : TypeId × Value → H) :
    ReturnsInHanded {} Try.checked os 8 .any (Rows.rootNewestSpec.pre6 enc Try.prog Try.f8 Rows.rootNewestRow.domain false) (Rows.rootNewestSpec.post enc Try.prog Try.f8 false true false false) := by
  refine returnsInHanded_of_change (C := Try.checked) Try.own started (by kernel_rfl) Try.func8
    (ChangeSpec.witness6 (enc := enc) (C := Try.checked) false ⟨#[], #[.slice none 0 0, .int .i64 0, .slice none 0 0], []⟩ 8 (by kernel_rfl) (by kernel_rfl) (by kernel_rfl) (by kernel_rfl)) ?_
  intro W base args ds gs before hval hW hcnd _
  refine closes_sh (shs := [.sl (.st [.int .i64, .st [.int .i64, .int .i64, .int .i64, .int .i64, .str]]), .int .i64, .sl (.st [.int .i64, .int .i64, .int .i64, .int .i64])]) Try.laidOut hval hW (by kernel_rfl) rfl (by kernel_rfl) Try.underlying4 (fun hl e => ?_) (by kernel_rfl) newest_fit
  subst e
  match ds, hl with
  | [d0, d1, d2], _ => rfl

theorem rootNewest_holds : Rows.RootNewestSaid :=
  OpenClaim.holds_of_wide 8 Try.f8 rfl rfl rfl rfl rfl rfl rfl ⟨rfl, rfl, rfl, rfl, rfl⟩ rfl rfl rfl rfl rfl (by kernel_rfl) Try.func8 (by kernel_rfl)
    (of_decide_eq_true (by kernel_rfl)) (by unfold Func.isWrapper; first | (rw [if_pos (by decide +kernel)]; kernel_rfl) | (rw [if_neg (by decide +kernel)]; exact ⟨rfl, rfl⟩))
    (fun os started H enc _ => rootNewest_lifted os started H enc)


end Go.Proofs.Ytklniadgdbjcpaa
