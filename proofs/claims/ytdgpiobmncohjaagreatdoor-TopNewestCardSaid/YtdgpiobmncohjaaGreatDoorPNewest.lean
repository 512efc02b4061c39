/-
  TopNewest: returns true whatever the input; the row lists errors.errorType; the tied card.
-/
import Derived.Test.YtdgpiobmncohjaaGreatDoorRows
import Derived.Test.YtdgpiobmncohjaaGreatDoorAwOpen
import Derived.Test.YtdgpiobmncohjaaGreatDoorNew
import Derived.Test.YtdgpiobmncohjaaGreatDoorTie
import Derived.Test.YtdgpiobmncohjaaGreatDoorCards
import Derived.ChangeVars
import Derived.LaidLaws
import Derived.LaidHandle
import Derived.Stop.Joined
import Derived.SevenTiedAt
set_option linter.unusedSimpArgs false
set_option linter.unusedVariables false
namespace Go.Proofs.YtdgpiobmncohjaaGreatDoor
open Go.ChangeShapes Go.WideShapes Go.ChangeMaps Go.ChangeAt Go.RowKit Aw

namespace Aw
abbrev shMi : Sh := .st [.int .i64, .int .i64, .int .i64, .str]
theorem fit_mi {cs : List PV} (h : shMi.fit cs) : ∃ m : Mis, cs = rowM m ∧ m.jk.length ≤ 9223372036854775807 := by
  obtain ⟨_, _, rfl, ⟨x, rfl, _⟩, _, _, rfl, ⟨y, rfl, _⟩, _, _, rfl, ⟨z, rfl, _⟩, _, _, rfl, ⟨s, rfl, hs⟩, rfl⟩ := h
  exact ⟨⟨x, y, z, s⟩, rfl, by simpa [maxLen] using hs⟩
theorem u16_bounds {n : Int} (wn : (Lit.int .u16 n).wf = true) : 0 ≤ n ∧ n ≤ 65535 := by
  have e0 : IntKind.u16.min = 0 := by decide
  have e1 : IntKind.u16.max = 65535 := by decide
  simpa only [Lit.wf, e0, e1, Bool.and_eq_true, decide_eq_true_eq] using wn
theorem rows_u16 : ∀ (rows : List (List PV)), (∀ r ∈ rows, (Sh.int .u16).fit r) → ∃ l : List Int, rows = l.map rowU ∧ ∀ x ∈ l, 0 ≤ x ∧ x ≤ 65535
  | [], _ => ⟨[], rfl, fun x h => by cases h⟩
  | r :: rows, h => by
    obtain ⟨l, h1, h2⟩ := rows_u16 rows fun x hx => h x (List.mem_cons_of_mem _ hx)
    obtain ⟨n, h3, h4⟩ := h r (by simp)
    refine ⟨n :: l, by rw [h1, h3]; rfl, fun x hx => ?_⟩
    rw [List.mem_cons] at hx
    rcases hx with rfl | hx
    · exact u16_bounds h4
    · exact h2 x hx
theorem newest_fit (ps : List PV) (h : fitVs [.sl (.int .u16), shMi] ps) : PCall Tryz.prog 3 ps (.bool true) := by
  obtain ⟨_, _, rfl, ⟨rows, hr, hl, hf⟩, _, _, rfl, ⟨es, rfl, hz⟩, rfl⟩ := h
  cases hr
  obtain ⟨l, rfl, hb⟩ := rows_u16 rows hf
  obtain ⟨m, rfl, hm⟩ := fit_mi hz
  exact newest_law l m (by simpa [maxLen] using hl) hb hm
end Aw

theorem Tryz.own : ownKnob Tryz.prog.godebug = none := by kernel_rfl
theorem Tryz.laidOut : laidOutB Tryz.prog = true := by kernel_rfl
theorem Tryz.et : Tryz.prog.globalNamed "errors.errorType" = some 0 := by kernel_rfl
theorem Tryz.rt : (Tryz.prog.cutTypes.find? (·.1 == "internal/reflectlite.rtype")).map (·.2) = some 272 := by kernel_rfl
theorem Tryz.oneRow : ((List.range 329).filter fun t => Tryz.prog.rowNamed t [101, 114, 114, 111, 114]) = [27] := by kernel_rfl
theorem Tryz.size : Tryz.prog.types.size = 329 := by kernel_rfl
abbrev laidL : List (String × DataW Unit) := [("errors.errorType", Rows.laid_errors_errorType)]

/-- What the condition gives a walk: the variable's one cell. -/
theorem handle_of_laid {W : World} (h : laidMetH Tryz.prog laidL W) : GlobOk W := by
  have h' : laidMet Tryz.prog [] W ∧ handlesMet Tryz.prog laidL W := h
  obtain ⟨name, u, ty, e1, e2, e3, e4, e5⟩ := h'.2 _ (List.mem_singleton.2 rfl)
  have en : name = [101, 114, 114, 111, 114] := (Option.some.inj e1).symm
  subst en
  obtain rfl := Option.some.inj (Tryz.rt.symm.trans e2)
  have hm : ty ∈ (List.range 329).filter fun t => Tryz.prog.rowNamed t [101, 114, 114, 111, 114] := List.mem_filter.2 ⟨List.mem_range.2 (by rw [← Tryz.size]; exact e3), e4⟩
  rw [Tryz.oneRow] at hm
  obtain rfl := List.mem_singleton.1 hm
  have hh : typeHandle Tryz.prog 27 = .pointer (some ⟨1, 27, none⟩) := by kernel_rfl
  rw [hh] at e5
  have := World.var?_cell Tryz.et e5 0
  simpa [GlobOk] using this

/-- A world that meets the condition: the settled one, the variable's cell laid. -/
noncomputable def laidWorld (os : Os) : World :=
  let w0 := World.holding Tryz.prog os ⟨#[], #[], []⟩
  { w0 with heap := w0.heap.modify 0 fun
      | .cells _ t frozen => .cells #[.iface 272 (.agg #[.pointer (some ⟨1, 27, none⟩)])] t frozen
      | o => o }
theorem laidWorld_met (os : Os) (args : Array Value) : laidMetH Tryz.prog laidL ((laidWorld os).forCall (fun _ _ => 0) ⟨#[], args, []⟩).memory :=
  laidMetH_of_parts (laidMet_nil _ _) (by kernel_rfl)

set_option maxRecDepth 100000 in
theorem topNewest_lifted (os : Os) (started : os.Started) (H : Type) (enc : TypeId × Value → H) :
    ReturnsInHanded {} Tryz.checked os 3 .any (fun w args => (Rows.topNewestSpec.pre enc Tryz.prog Tryz.f3 Rows.topNewestRow.domain false w args ∧ laidMetH Tryz.prog laidL w) ∧ sizedMet enc Tryz.prog Tryz.f3 (OpenSpec.ofChange Rows.topNewestSpec) false w args)
      (Rows.topNewestSpec.post enc Tryz.prog Tryz.f3 false true false false) := by
  refine returnsInHanded_of_change_and (C := Tryz.checked) (X := fun w _ => laidMetH Tryz.prog laidL w) (fun _ _ _ hh h => h.of_heap hh) Tryz.own started (by kernel_rfl) Tryz.func3
    (ChangeSpec.witness_at (enc := enc) (C := Tryz.checked) (os := os) (X := fun w _ => laidMetH Tryz.prog laidL w) false (laidWorld os) #[.slice none 0 0, .agg #[.int .i64 0, .int .i64 0, .int .i64 0, .string ⟨#[]⟩]] 8 rfl (by kernel_rfl) (by kernel_rfl) (by kernel_rfl) (by kernel_rfl) (by kernel_rfl) (laidWorld_met os _)) ?_
  intro W base args ds gs before hval hW _ _ hL _
  refine closes_sh (shs := [.sl (.int .u16), shMi]) Tryz.laidOut hval hW (by kernel_rfl) rfl (by kernel_rfl) Tryz.underlying4 (fun hl e => ?_) (by kernel_rfl) newest_fit (handle_of_laid hL)
  subst e
  match ds, hl with
  | [d0, d1], _ => rfl

theorem topNewest_holds : Rows.TopNewestSaid :=
  OpenClaim.holds_of_wide 3 Tryz.f3 rfl rfl rfl rfl rfl rfl rfl ⟨rfl, rfl, rfl, rfl, rfl⟩ rfl rfl rfl rfl rfl (by kernel_rfl) Tryz.func3 (by kernel_rfl)
    (of_decide_eq_true (by kernel_rfl)) (by unfold Func.isWrapper; first | (rw [if_pos (by decide +kernel)]; kernel_rfl) | (rw [if_neg (by decide +kernel)]; exact ⟨rfl, rfl⟩))
    (fun os started H enc _ => topNewest_lifted os started H enc)

theorem topNewestCard_holds : Rows.TopNewestCardSaid :=
  Claim7.holds_tied_plain_at .later [] [.handle] true (true, "c864fa5583b8247b40a8fc8f83935b22a8e70f52714a2314241754ac07a3f76a") true
    topNewest_holds (fun _ h => by cases h) (by kernel_rfl) (fun _ h => by cases h) topNewest_row_tie rfl ⟨rfl, rfl⟩ (by kernel_rfl) rfl
    (fun f fn hf hfn => by
      obtain rfl : f = 3 := Option.some.inj ((show Tryz.prog.funcNamed "scoria/scoriatop.TopNewest" = some 3 by kernel_rfl).symm.trans hf) |>.symm
      obtain rfl : fn = Tryz.f3 := (Option.some.inj (Tryz.func3.symm.trans hfn)).symm
      exact ⟨by kernel_rfl, fun j t ht => by
        have hp : Tryz.f3.params.toList = [22, 24] := by kernel_rfl
        have ht' : [22, 24][j]? = some t := by rw [← hp]; simpa using ht
        have hall : ([22, 24].all fun t => Tryz.prog.wantsStandIn t == false) = true := by kernel_rfl
        have := List.all_eq_true.1 hall t (List.mem_of_getElem? ht')
        exact (show Tryz.prog.wantsStandIn t = false by simpa using this)⟩)
    (by kernel_rfl)

end Go.Proofs.YtdgpiobmncohjaaGreatDoor
