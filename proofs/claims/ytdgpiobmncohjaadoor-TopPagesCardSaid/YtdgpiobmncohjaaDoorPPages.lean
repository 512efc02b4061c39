/-
  TopPages: returns true whatever the input; the row lists errors.errorType; the tied card.
-/
import Derived.Test.YtdgpiobmncohjaaDoorRows
import Derived.Test.YtdgpiobmncohjaaDoorAwOpen
import Derived.Test.YtdgpiobmncohjaaDoorLPages
import Derived.Test.YtdgpiobmncohjaaDoorTie
import Derived.Test.YtdgpiobmncohjaaDoorCards
import Derived.ChangeVars
import Derived.LaidLaws
import Derived.LaidHandle
import Derived.Stop.Joined
import Derived.SevenTiedAt
set_option linter.unusedSimpArgs false
set_option linter.unusedVariables false
namespace Go.Proofs.YtdgpiobmncohjaaDoor
open Go.ChangeShapes Go.WideShapes Go.ChangeMaps Go.ChangeAt Go.RowKit Aw

namespace Aw
abbrev shP : Sh := .st [.int .i64, .int .i64, .int .i64, .int .i64, .str]
theorem fit_pg {cs : List PV} (h : shP.fit cs) : ∃ p : Pg, cs = rowP p ∧ p.bo.length ≤ 9223372036854775807 := by
  obtain ⟨_, _, rfl, ⟨x, rfl, _⟩, _, _, rfl, ⟨y, rfl, _⟩, _, _, rfl, ⟨z, rfl, _⟩, _, _, rfl, ⟨u, rfl, _⟩, _, _, rfl, ⟨s, rfl, hs⟩, rfl⟩ := h
  exact ⟨⟨x, y, z, u, s⟩, rfl, by simpa [maxLen] using hs⟩
theorem rows_pg : ∀ (rows : List (List PV)), (∀ r ∈ rows, shP.fit r) → ∃ l : List Pg, rows = l.map rowP ∧ ∀ x ∈ l, x.bo.length ≤ 9223372036854775807
  | [], _ => ⟨[], rfl, fun x h => by cases h⟩
  | r :: rows, h => by
    obtain ⟨l, h1, h2⟩ := rows_pg rows fun x hx => h x (List.mem_cons_of_mem _ hx)
    obtain ⟨b, h3, h4⟩ := fit_pg (h r (by simp))
    refine ⟨b :: l, by rw [h1, h3]; rfl, fun x hx => ?_⟩
    rw [List.mem_cons] at hx
    rcases hx with rfl | hx
    · exact h4
    · exact h2 x hx
theorem pages_fit (ps : List PV) (h : fitVs [.sl shP, .int .i64] ps) : PCall Tryd.prog 4 ps (.bool true) := by
  obtain ⟨_, _, rfl, ⟨rows, hr, hl, hf⟩, _, _, rfl, ⟨k, hk, _⟩, rfl⟩ := h
  cases hr; cases hk
  obtain ⟨l, rfl, hb⟩ := rows_pg rows hf
  exact pages_law l k (by simpa [maxLen] using hl) hb
end Aw

theorem Tryd.own : ownKnob Tryd.prog.godebug = none := by kernel_rfl
theorem Tryd.laidOut : laidOutB Tryd.prog = true := by kernel_rfl
theorem Tryd.et : Tryd.prog.globalNamed "errors.errorType" = some 0 := by kernel_rfl
theorem Tryd.rt : (Tryd.prog.cutTypes.find? (·.1 == "internal/reflectlite.rtype")).map (·.2) = some 116 := by kernel_rfl
theorem Tryd.oneRow : ((List.range 164).filter fun t => Tryd.prog.rowNamed t [101, 114, 114, 111, 114]) = [32] := by kernel_rfl
theorem Tryd.size : Tryd.prog.types.size = 164 := by kernel_rfl
abbrev laidL : List (String × DataW Unit) := [("errors.errorType", Rows.laid_errors_errorType)]

/-- What the condition gives a walk: the variable's one cell. -/
theorem handle_of_laid {W : World} (h : laidMetH Tryd.prog laidL W) : GlobOk W := by
  have h' : laidMet Tryd.prog [] W ∧ handlesMet Tryd.prog laidL W := h
  obtain ⟨name, u, ty, e1, e2, e3, e4, e5⟩ := h'.2 _ (List.mem_singleton.2 rfl)
  have en : name = [101, 114, 114, 111, 114] := (Option.some.inj e1).symm
  subst en
  obtain rfl := Option.some.inj (Tryd.rt.symm.trans e2)
  have hm : ty ∈ (List.range 164).filter fun t => Tryd.prog.rowNamed t [101, 114, 114, 111, 114] := List.mem_filter.2 ⟨List.mem_range.2 (by rw [← Tryd.size]; exact e3), e4⟩
  rw [Tryd.oneRow] at hm
  obtain rfl := List.mem_singleton.1 hm
  have hh : typeHandle Tryd.prog 32 = .pointer (some ⟨1, 32, none⟩) := by kernel_rfl
  rw [hh] at e5
  have := World.var?_cell Tryd.et e5 0
  simpa [GlobOk] using this

/-- A world that meets the condition: the settled one, the variable's cell laid. -/
noncomputable def laidWorld (os : Os) : World :=
  let w0 := World.holding Tryd.prog os ⟨#[], #[], []⟩
  { w0 with heap := w0.heap.modify 0 fun
      | .cells _ t frozen => .cells #[.iface 116 (.agg #[.pointer (some ⟨1, 32, none⟩)])] t frozen
      | o => o }
theorem laidWorld_met (os : Os) (args : Array Value) : laidMetH Tryd.prog laidL ((laidWorld os).forCall (fun _ _ => 0) ⟨#[], args, []⟩).memory :=
  laidMetH_of_parts (laidMet_nil _ _) (by kernel_rfl)

set_option maxRecDepth 100000 in
theorem topPages_lifted (os : Os) (started : os.Started) (H : Type) (enc : TypeId × Value → H) :
    ReturnsInHanded {} Tryd.checked os 4 .any (fun w args => (Rows.topPagesSpec.pre enc Tryd.prog Tryd.f4 Rows.topPagesRow.domain false w args ∧ laidMetH Tryd.prog laidL w) ∧ sizedMet enc Tryd.prog Tryd.f4 (OpenSpec.ofChange Rows.topPagesSpec) false w args)
      (Rows.topPagesSpec.post enc Tryd.prog Tryd.f4 false true false false) := by
  refine returnsInHanded_of_change_and (C := Tryd.checked) (X := fun w _ => laidMetH Tryd.prog laidL w) (fun _ _ _ hh h => h.of_heap hh) Tryd.own started (by kernel_rfl) Tryd.func4
    (ChangeSpec.witness_at (enc := enc) (C := Tryd.checked) (os := os) (X := fun w _ => laidMetH Tryd.prog laidL w) false (laidWorld os) #[.slice none 0 0, .int .i64 0] 8 rfl (by kernel_rfl) (by kernel_rfl) (by kernel_rfl) (by kernel_rfl) (by kernel_rfl) (laidWorld_met os _)) ?_
  intro W base args ds gs before hval hW _ _ hL _
  refine closes_sh (shs := [.sl shP, .int .i64]) Tryd.laidOut hval hW (by kernel_rfl) rfl (by kernel_rfl) Tryd.underlying4 (fun hl e => ?_) (by kernel_rfl) pages_fit (handle_of_laid hL)
  subst e
  match ds, hl with
  | [d0, d1], _ => rfl

theorem topPages_holds : Rows.TopPagesSaid :=
  OpenClaim.holds_of_wide 4 Tryd.f4 rfl rfl rfl rfl rfl rfl rfl ⟨rfl, rfl, rfl, rfl, rfl⟩ rfl rfl rfl rfl rfl (by kernel_rfl) Tryd.func4 (by kernel_rfl)
    (of_decide_eq_true (by kernel_rfl)) (by unfold Func.isWrapper; first | (rw [if_pos (by decide +kernel)]; kernel_rfl) | (rw [if_neg (by decide +kernel)]; exact ⟨rfl, rfl⟩))
    (fun os started H enc _ => topPages_lifted os started H enc)

theorem topPagesCard_holds : Rows.TopPagesCardSaid :=
  Claim7.holds_tied_plain_at .later [] [.handle] true (true, "dc144470b48d7964eb66ffc1ec008b51a29236a3c329a6d332b2e2c94a37e604") true
    topPages_holds (fun _ h => by cases h) (by kernel_rfl) (fun _ h => by cases h) topPages_row_tie rfl ⟨rfl, rfl⟩ (by kernel_rfl) rfl
    (fun f fn hf hfn => by
      obtain rfl : f = 4 := Option.some.inj ((show Tryd.prog.funcNamed "scoria/scoriatop.TopPages" = some 4 by kernel_rfl).symm.trans hf) |>.symm
      obtain rfl : fn = Tryd.f4 := (Option.some.inj (Tryd.func4.symm.trans hfn)).symm
      exact ⟨by kernel_rfl, fun j t ht => by
        have hp : Tryd.f4.params.toList = [47, 3] := by kernel_rfl
        have ht' : [47, 3][j]? = some t := by rw [← hp]; simpa using ht
        have hall : ([47, 3].all fun t => Tryd.prog.wantsStandIn t == false) = true := by kernel_rfl
        have := List.all_eq_true.1 hall t (List.mem_of_getElem? ht')
        exact (show Tryd.prog.wantsStandIn t = false by simpa using this)⟩)
    (by kernel_rfl)

end Go.Proofs.YtdgpiobmncohjaaDoor
