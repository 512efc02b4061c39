/-
  TopTree: each returns true whatever the input.
-/
import Derived.Test.YtdgpiobmncohjaaGreatRows
import Derived.Test.YtdgpiobmncohjaaGreatAwOpen
import Derived.Test.YtdgpiobmncohjaaGreatLaw
set_option linter.unusedSimpArgs false
set_option linter.unusedVariables false
namespace Go.Proofs.YtdgpiobmncohjaaGreat
open Go.ChangeShapes Go.WideShapes Go.ChangeMaps Go.ChangeAt Go.RowKit Aw

theorem Tryz.own : ownKnob Tryz.prog.godebug = none := by kernel_rfl
theorem Tryz.laidOut : laidOutB Tryz.prog = true := by kernel_rfl

set_option maxRecDepth 100000 in
theorem topTree_lifted (os : Os) (started : os.Started) (H : Type) (enc : TypeId × Value → H) :
    ReturnsInHanded {} Tryz.checked os 4 .any (Rows.topTreeSpec.pre6 enc Tryz.prog Tryz.f4 Rows.topTreeRow.domain false) (Rows.topTreeSpec.post enc Tryz.prog Tryz.f4 false true false false) := by
  refine returnsInHanded_of_change (C := Tryz.checked) Tryz.own started (by kernel_rfl) Tryz.func4
    (ChangeSpec.witness6 (enc := enc) (C := Tryz.checked) false ⟨#[], #[.slice none 0 0, .int .i64 0], []⟩ 8 (by kernel_rfl) (by kernel_rfl) (by kernel_rfl) (by kernel_rfl)) ?_
  intro W base args ds gs before hval hW hcnd _
  refine closes_sh (shs := [.sl shY, .int .i64]) Tryz.laidOut hval hW (by kernel_rfl) rfl (by kernel_rfl) Tryz.underlying4 (fun hl e => ?_) (by kernel_rfl) tree_fit
  subst e
  match ds, hl with
  | [d0, d1], _ => rfl

theorem topTree_holds : Rows.TopTreeSaid :=
  OpenClaim.holds_of_wide 4 Tryz.f4 rfl rfl rfl rfl rfl rfl rfl ⟨rfl, rfl, rfl, rfl, rfl⟩ rfl rfl rfl rfl rfl (by kernel_rfl) Tryz.func4 (by kernel_rfl)
    (of_decide_eq_true (by kernel_rfl)) (by unfold Func.isWrapper; first | (rw [if_pos (by decide +kernel)]; kernel_rfl) | (rw [if_neg (by decide +kernel)]; exact ⟨rfl, rfl⟩))
    (fun os started H enc _ => topTree_lifted os started H enc)


end Go.Proofs.YtdgpiobmncohjaaGreat
