/-
  LeafWrites, LeafInner, LeafReads, LeafBack, LeafHalves: each returns true whatever the input.
-/
import Derived.Test.YtlkpceacmfndlaaRows
import Derived.Test.YtlkpceacmfndlaaAwOpen
import Derived.Test.YtlkpceacmfndlaaL09
set_option linter.unusedSimpArgs false
set_option linter.unusedVariables false
namespace Go.Proofs.Ytlkpceacmfndlaa
open Go.ChangeShapes Go.WideShapes Go.ChangeMaps Go.ChangeAt Go.RowKit Aw

theorem Try.own : ownKnob Try.prog.godebug = none := by kernel_rfl
theorem Try.laidOut : laidOutB Try.prog = true := by kernel_rfl

set_option maxRecDepth 100000 in
theorem leafWrites_lifted (os : Os) (started : os.Started) (H : Type) (enc : TypeId × Value → H) :
    ReturnsInHanded {} Try.checked os 3 .any (Rows.leafWritesSpec.pre6 enc Try.prog Try.f3 Rows.leafWritesRow.domain false) (Rows.leafWritesSpec.post enc Try.prog Try.f3 false true false false) := by
  refine returnsInHanded_of_change (C := Try.checked) Try.own started (by kernel_rfl) Try.func3
    (ChangeSpec.witness6 (enc := enc) (C := Try.checked) false ⟨#[], #[.slice none 0 0], []⟩ 8 (by kernel_rfl) (by kernel_rfl) (by kernel_rfl) (by kernel_rfl)) ?_
  intro W base args ds gs before hval hW hcnd _
  refine closes_sh (shs := [.sl (.st [.int .i64, .int .i64, .int .i64, .int .i64])]) Try.laidOut hval hW (by kernel_rfl) rfl (by kernel_rfl) Try.underlying4 (fun hl e => ?_) (by kernel_rfl) writes_fit
  subst e
  match ds, hl with
  | [d0], _ => rfl

theorem leafWrites_holds : Rows.LeafWritesSaid :=
  OpenClaim.holds_of_wide 3 Try.f3 rfl rfl rfl rfl rfl rfl rfl ⟨rfl, rfl, rfl, rfl, rfl⟩ rfl rfl rfl rfl rfl (by kernel_rfl) Try.func3 (by kernel_rfl)
    (of_decide_eq_true (by kernel_rfl)) (by unfold Func.isWrapper; first | (rw [if_pos (by decide +kernel)]; kernel_rfl) | (rw [if_neg (by decide +kernel)]; exact ⟨rfl, rfl⟩))
    (fun os started H enc _ => leafWrites_lifted os started H enc)


set_option maxRecDepth 100000 in
theorem leafInner_lifted (os : Os) (started : os.Started) (H : Type) (enc : TypeId × Value → H) :
    ReturnsInHanded {} Try.checked os 5 .any (Rows.leafInnerSpec.pre6 enc Try.prog Try.f5 Rows.leafInnerRow.domain false) (Rows.leafInnerSpec.post enc Try.prog Try.f5 false true false false) := by
  refine returnsInHanded_of_change (C := Try.checked) Try.own started (by kernel_rfl) Try.func5
    (ChangeSpec.witness6 (enc := enc) (C := Try.checked) false ⟨#[], #[.slice none 0 0], []⟩ 8 (by kernel_rfl) (by kernel_rfl) (by kernel_rfl) (by kernel_rfl)) ?_
  intro W base args ds gs before hval hW hcnd _
  refine closes_sh (shs := [.sl (.st [.int .i64, .int .i64])]) Try.laidOut hval hW (by kernel_rfl) rfl (by kernel_rfl) Try.underlying4 (fun hl e => ?_) (by kernel_rfl) inner_fit
  subst e
  match ds, hl with
  | [d0], _ => rfl

theorem leafInner_holds : Rows.LeafInnerSaid :=
  OpenClaim.holds_of_wide 5 Try.f5 rfl rfl rfl rfl rfl rfl rfl ⟨rfl, rfl, rfl, rfl, rfl⟩ rfl rfl rfl rfl rfl (by kernel_rfl) Try.func5 (by kernel_rfl)
    (of_decide_eq_true (by kernel_rfl)) (by unfold Func.isWrapper; first | (rw [if_pos (by decide +kernel)]; kernel_rfl) | (rw [if_neg (by decide +kernel)]; exact ⟨rfl, rfl⟩))
    (fun os started H enc _ => leafInner_lifted os started H enc)


set_option maxRecDepth 100000 in
theorem leafReads_lifted (os : Os) (started : os.Started) (H : Type) (enc : TypeId × Value → H) :
    ReturnsInHanded {} Try.checked os 4 .any (Rows.leafReadsSpec.pre6 enc Try.prog Try.f4 Rows.leafReadsRow.domain false) (Rows.leafReadsSpec.post enc Try.prog Try.f4 false true false false) := by
  refine returnsInHanded_of_change (C := Try.checked) Try.own started (by kernel_rfl) Try.func4
    (ChangeSpec.witness6 (enc := enc) (C := Try.checked) false ⟨#[], #[.string ⟨#[]⟩], []⟩ 8 (by kernel_rfl) (by kernel_rfl) (by kernel_rfl) (by kernel_rfl)) ?_
  intro W base args ds gs before hval hW hcnd _
  refine closes_sh (shs := [.str]) Try.laidOut hval hW (by kernel_rfl) rfl (by kernel_rfl) Try.underlying4 (fun hl e => ?_) (by kernel_rfl) reads_fit
  subst e
  match ds, hl with
  | [d0], _ => rfl

theorem leafReads_holds : Rows.LeafReadsSaid :=
  OpenClaim.holds_of_wide 4 Try.f4 rfl rfl rfl rfl rfl rfl rfl ⟨rfl, rfl, rfl, rfl, rfl⟩ rfl rfl rfl rfl rfl (by kernel_rfl) Try.func4 (by kernel_rfl)
    (of_decide_eq_true (by kernel_rfl)) (by unfold Func.isWrapper; first | (rw [if_pos (by decide +kernel)]; kernel_rfl) | (rw [if_neg (by decide +kernel)]; exact ⟨rfl, rfl⟩))
    (fun os started H enc _ => leafReads_lifted os started H enc)


set_option maxRecDepth 100000 in
theorem leafBack_lifted (os : Os) (started : os.Started) (H : Type) (enc : TypeId × Value → H) :
    ReturnsInHanded {} Try.checked os 7 .any (Rows.leafBackSpec.pre6 enc Try.prog Try.f7 Rows.leafBackRow.domain false) (Rows.leafBackSpec.post enc Try.prog Try.f7 false true false false) := by
  refine returnsInHanded_of_change (C := Try.checked) Try.own started (by kernel_rfl) Try.func7
    (ChangeSpec.witness6 (enc := enc) (C := Try.checked) false ⟨#[], #[.slice none 0 0, .slice none 0 0, .string ⟨#[]⟩], []⟩ 8 (by kernel_rfl) (by kernel_rfl) (by kernel_rfl) (by kernel_rfl)) ?_
  intro W base args ds gs before hval hW hcnd _
  refine closes_sh (shs := [.sl (.st [.int .i64, .int .i64, .int .i64, .int .i64]), .sl (.st [.int .i64, .int .i64]), .str]) Try.laidOut hval hW (by kernel_rfl) rfl (by kernel_rfl) Try.underlying4 (fun hl e => ?_) (by kernel_rfl) back_fit
  subst e
  match ds, hl with
  | [d0, d1, d2], _ => rfl

theorem leafBack_holds : Rows.LeafBackSaid :=
  OpenClaim.holds_of_wide 7 Try.f7 rfl rfl rfl rfl rfl rfl rfl ⟨rfl, rfl, rfl, rfl, rfl⟩ rfl rfl rfl rfl rfl (by kernel_rfl) Try.func7 (by kernel_rfl)
    (of_decide_eq_true (by kernel_rfl)) (by unfold Func.isWrapper; first | (rw [if_pos (by decide +kernel)]; kernel_rfl) | (rw [if_neg (by decide +kernel)]; exact ⟨rfl, rfl⟩))
    (fun os started H enc _ => leafBack_lifted os started H enc)


set_option maxRecDepth 100000 in
theorem leafHalves_lifted (os : Os) (started : os.Started) (H : Type) (enc : TypeId × Value → H) :
    ReturnsInHanded {} Try.checked os 6 .any (Rows.leafHalvesSpec.pre6 enc Try.prog Try.f6 Rows.leafHalvesRow.domain false) (Rows.leafHalvesSpec.post enc Try.prog Try.f6 false true false false) := by
  refine returnsInHanded_of_change (C := Try.checked) Try.own started (by kernel_rfl) Try.func6
    (ChangeSpec.witness6 (enc := enc) (C := Try.checked) false ⟨#[], #[.slice none 0 0, .slice none 0 0, .int .i64 0], []⟩ 8 (by kernel_rfl) (by kernel_rfl) (by kernel_rfl) (by kernel_rfl)) ?_
  intro W base args ds gs before hval hW hcnd _
  refine closes_sh (shs := [.sl (.st [.int .i64, .int .i64, .int .i64, .int .i64]), .sl (.st [.int .i64, .int .i64]), .int .i64]) Try.laidOut hval hW (by kernel_rfl) rfl (by kernel_rfl) Try.underlying4 (fun hl e => ?_) (by kernel_rfl) halves_fit
  subst e
  match ds, hl with
  | [d0, d1, d2], _ => rfl

theorem leafHalves_holds : Rows.LeafHalvesSaid :=
  OpenClaim.holds_of_wide 6 Try.f6 rfl rfl rfl rfl rfl rfl rfl ⟨rfl, rfl, rfl, rfl, rfl⟩ rfl rfl rfl rfl rfl (by kernel_rfl) Try.func6 (by kernel_rfl)
    (of_decide_eq_true (by kernel_rfl)) (by unfold Func.isWrapper; first | (rw [if_pos (by decide +kernel)]; kernel_rfl) | (rw [if_neg (by decide +kernel)]; exact ⟨rfl, rfl⟩))
    (fun os started H enc _ => leafHalves_lifted os started H enc)


end Go.Proofs.Ytlkpceacmfndlaa
