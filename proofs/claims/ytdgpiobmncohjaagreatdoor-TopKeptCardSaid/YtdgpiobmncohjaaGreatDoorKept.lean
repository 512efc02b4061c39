/-
 TopKept: returns true whatever the input; the row lists errors.errorType; the tied card.
-/
import Derived.Test.YtdgpiobmncohjaaGreatDoorRows
import Derived.Test.YtdgpiobmncohjaaGreatDoorKal
import Derived.Test.YtdgpiobmncohjaaGreatDoorKbg
import Derived.Test.YtdgpiobmncohjaaGreatDoorTie
import Derived.Test.YtdgpiobmncohjaaGreatDoorCards
import Derived.ChangeVars
import Derived.LaidLaws
import Derived.LaidHandle
import Derived.Stop.Joined
import Derived.SevenTiedAt
set_option linter.all false
namespace Go.Proofs.YtdgpiobmncohjaaGreatDoor
open Go.ChangeShapes Go.WideShapes Go.ChangeMaps Go.ChangeAt Go.RowKit Aw
namespace Aw
abbrev shY : Sh := .st [.st [.int .i64, .int .i64, .int .i64, .int .i64], .bool]
theorem fit_y {cs : List PV} (h : shY.fit cs) : ∃ x : Lay, cs = rowY x := by
 obtain ⟨_, _, rfl, ⟨_, _, rfl, ⟨a, rfl, _⟩, _, _, rfl, ⟨b, rfl, _⟩, _, _, rfl, ⟨c, rfl, _⟩, _, _, rfl, ⟨d, rfl, _⟩, rfl⟩, _, _, rfl, ⟨k, rfl⟩, rfl⟩ := h
 exact ⟨⟨⟨a, b, c, d⟩, k⟩, rfl⟩
theorem fit_ys : ∀ {rows : List (List PV)}, (∀ r ∈ rows, shY.fit r) → ∃ l : List Lay, rows = l.map rowY
 | [], _ => ⟨[], rfl⟩
 | r :: rs, h => by
  obtain ⟨x, hx⟩ := fit_y (h r (by simp))
  obtain ⟨l, hl⟩ := fit_ys (rows := rs) fun q hq => h q (by simp [hq])
  exact ⟨x :: l, by rw [hx, hl]; rfl⟩
theorem kept_fit (ps : List PV) (h : fitVs [.sl shY, .sl shY, .arr 2 (.int .i64)] ps) : PCall Tryz.prog 4 ps (.bool true) := by
 obtain ⟨_, _, rfl, ⟨rows, hr, hl, hf⟩, _, _, rfl, ⟨rows2, hr2, hl2, hf2⟩, _, _, rfl, ⟨cs, rfl, parts, rfl, hp, ha⟩, rfl⟩ := h
 cases hr; cases hr2
 obtain ⟨l, rfl⟩ := fit_ys hf
 obtain ⟨l2, rfl⟩ := fit_ys hf2
 match parts, hp, ha with
 | [p, q], _, ha =>
  obtain ⟨a, rfl, _⟩ := ha p (by simp)
  obtain ⟨b, rfl, _⟩ := ha q (by simp)
  exact kept_law l l2 a b (by simpa [maxLen] using hl) (by simpa [maxLen] using hl2)
end Aw
theorem Tryz.own : ownKnob Tryz.prog.godebug = none := by kernel_rfl
theorem Tryz.laidOut : laidOutB Tryz.prog = true := by kernel_rfl
theorem Tryz.et : Tryz.prog.globalNamed "errors.errorType" = some 0 := by kernel_rfl
theorem Tryz.rt : (Tryz.prog.cutTypes.find? (·.1 == "internal/reflectlite.rtype")).map (·.2) = some 272 := by kernel_rfl
theorem Tryz.oneRow : ((List.range 329).filter fun t => Tryz.prog.rowNamed t [101, 114, 114, 111, 114]) = [27] := by kernel_rfl
theorem Tryz.size : Tryz.prog.types.size = 329 := by kernel_rfl
abbrev laidL : List (String × DataW Unit) := [("errors.errorType", Rows.laid_errors_errorType)]
theorem handle_of_laid {W : World} (h : laidMetH Tryz.prog laidL W) : GlobOk W := by
 have h' : laidMet Tryz.prog [] W ∧ handlesMet Tryz.prog laidL W := h
 obtain ⟨name, u, ty, e1, e2, e3, e4, e5⟩ := h'.2 _ (List.mem_singleton.2 rfl)
 have en : name = [101, 114, 114, 111, 114] := (Option.some.inj e1).symm
 subst en
 obtain rfl := Option.some.inj (Tryz.rt.symm.trans e2)
 have hm : ty ∈ (List.range 329).filter fun t => Tryz.prog.rowNamed t [101, 114, 114, 111, 114] := List.mem_filter.2 ⟨List.mem_range.2 (by rw [← Tryz.size]; exact e3), e4⟩
 rw [Tryz.oneRow] at hm
 obtain rfl := List.mem_singleton.1 hm
 have hh : typeHandle Tryz.prog 27 = .pointer (some ⟨1, 27, none⟩) := by kernel_rfl
 rw [hh] at e5
 have := World.var?_cell Tryz.et e5 0
 simpa [GlobOk] using this
noncomputable def laidWorld (os : Os) : World :=
 let w0 := World.holding Tryz.prog os ⟨#[], #[], []⟩
 { w0 with heap := w0.heap.modify 0 fun
   | .cells _ t frozen => .cells #[.iface 272 (.agg #[.pointer (some ⟨1, 27, none⟩)])] t frozen
   | o => o }
theorem laidWorld_met (os : Os) (args : Array Value) : laidMetH Tryz.prog laidL ((laidWorld os).forCall (fun _ _ => 0) ⟨#[], args, []⟩).memory :=
 laidMetH_of_parts (laidMet_nil _ _) (by kernel_rfl)
set_option maxRecDepth 100000 in
theorem topKept_lifted (os : Os) (started : os.Started) (H : Type) (enc : TypeId × Value → H) :
  ReturnsInHanded {} Tryz.checked os 4 .any (fun w args => (Rows.topKeptSpec.pre enc Tryz.prog Tryz.f4 Rows.topKeptRow.domain false w args ∧ laidMetH Tryz.prog laidL w) ∧ sizedMet enc Tryz.prog Tryz.f4 (OpenSpec.ofChange Rows.topKeptSpec) false w args)
   (Rows.topKeptSpec.post enc Tryz.prog Tryz.f4 false true false false) := by
 refine returnsInHanded_of_change_and (C := Tryz.checked) (X := fun w _ => laidMetH Tryz.prog laidL w) (fun _ _ _ hh h => h.of_heap hh) Tryz.own started (by kernel_rfl) Tryz.func4
  (ChangeSpec.witness_at (enc := enc) (C := Tryz.checked) (os := os) (X := fun w _ => laidMetH Tryz.prog laidL w) false (laidWorld os) #[.slice none 0 0, .slice none 0 0, .agg #[.int .i64 0, .int .i64 0]] 8 rfl (by kernel_rfl) (by kernel_rfl) (by kernel_rfl) (by kernel_rfl) (by kernel_rfl) (laidWorld_met os _)) ?_
 intro W base args ds gs before hval hW _ _ hL _
 refine closes_sh (shs := [.sl shY, .sl shY, .arr 2 (.int .i64)]) Tryz.laidOut hval hW (by kernel_rfl) rfl (by kernel_rfl) Tryz.underlying4 (fun hl e => ?_) (by kernel_rfl) kept_fit (handle_of_laid hL)
 subst e
 match ds, hl with
 | [d0, d1, d2], _ => rfl
theorem topKept_holds : Rows.TopKeptSaid :=
 OpenClaim.holds_of_wide 4 Tryz.f4 rfl rfl rfl rfl rfl rfl rfl ⟨rfl, rfl, rfl, rfl, rfl⟩ rfl rfl rfl rfl rfl (by kernel_rfl) Tryz.func4 (by kernel_rfl)
  (of_decide_eq_true (by kernel_rfl)) (by unfold Func.isWrapper; first | (rw [if_pos (by decide +kernel)]; kernel_rfl) | (rw [if_neg (by decide +kernel)]; exact ⟨rfl, rfl⟩))
  (fun os started H enc _ => topKept_lifted os started H enc)
theorem topKeptCard_holds : Rows.TopKeptCardSaid :=
 Claim7.holds_tied_plain_at .later [] [.handle] true (true, "c864fa5583b8247b40a8fc8f83935b22a8e70f52714a2314241754ac07a3f76a") true
  topKept_holds (fun _ h => by cases h) (by kernel_rfl) (fun _ h => by cases h) topKept_row_tie rfl ⟨rfl, rfl⟩ (by kernel_rfl) rfl
  (fun f fn hf hfn => by
   obtain rfl : f = 4 := Option.some.inj ((show Tryz.prog.funcNamed "scoria/scoriatop.TopKept" = some 4 by kernel_rfl).symm.trans hf) |>.symm
   obtain rfl : fn = Tryz.f4 := (Option.some.inj (Tryz.func4.symm.trans hfn)).symm
   exact ⟨by kernel_rfl, fun j t ht => by
    have hp : Tryz.f4.params.toList = [61, 61, 62] := by kernel_rfl
    have ht' : [61, 61, 62][j]? = some t := by rw [← hp]; simpa using ht
    have hall : ([61, 61, 62].all fun t => Tryz.prog.wantsStandIn t == false) = true := by kernel_rfl
    have := List.all_eq_true.1 hall t (List.mem_of_getElem? ht')
    exact (show Tryz.prog.wantsStandIn t = false by simpa using this)⟩)
  (by kernel_rfl)
end Go.Proofs.YtdgpiobmncohjaaGreatDoor
