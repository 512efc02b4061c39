/-
  No cell of these rows narrows 'for every input' (looked for: loops, veiled, ifaces, maps, wideKeys, modest, calm, conditions, laid).
  DERIVED. THE GIVEN ROWS OF THIS SEAT. 10 by the template 'for every input the law returns true; each argument reads behind the call as it read before'; 0 by the template 'total and deterministic' (their statements: YtilhghpphpcfhaaTotals.lean).
  GIVEN WITH THE SEED: the statements are not yours to turn. If you find one false, say at which input.
  Laid BY PROGRAM, IN A SANDBOX (cutbox-rows.mjs): the forced cells as the released guide's own fill.sh prints them over the translation 197b44f6789d7264… (all of the seat's roots in one cut). By AI agents, Wed Nov 11 2026. No macro, syntax, notation, axiom, sorry.
-/
import Derived.Test.YtilhghpphpcfhaaChecked
import GoSem.Claim
import GoSem.ClaimJoined
import GoSem.ClaimMapViews
import Derived.JoinedTies
import Derived.KernelRfl
namespace Go.Proofs.Ytilhghpphpcfhaa
/- THE CELL 'sum', in the pinned program and in every row, IS THE sha256 OF THE DUMP (.gsa) THAT YtilhghpphpcfhaaProg.lean LOADS. Nothing in Lean hashes anything: it is a label: what it is worth is what the hold of that sum in a sandbox is worth. -/
noncomputable def Try.pinned : Pinned := { name := "ytilhghpphpcfhaa", sum := "197b44f6789d7264018526c171fdf9099b9a684a7a38d45eab2448b8b83beeae", checked := Try.checked }
namespace Rows
def none {H : Type} : Left H := { results := [], args := [] }

/-- 'scorialaw07.ExtCuts': WHATEVER THE INPUT: true; the input reads as it did. -/
def extCutsSpec : ChangeSpec := { name := "extCuts", fn := fun _ => fun
  | [d1, d2, d3] => { results := [.lit (.bool true)], args := [d1, d2, d3] }
  | _ => none }
def extCutsRow : OpenClaim := { program := "ytilhghpphpcfhaa", sum := "197b44f6789d7264018526c171fdf9099b9a684a7a38d45eab2448b8b83beeae", func := "scoria/scorialaw07.ExtCuts", spec := "extCuts", apart := false }
def ExtCutsSaid : Prop := extCutsRow.holds Try.pinned (OpenSpec.ofChange extCutsSpec)

/-- ITS FALSE NEIGHBOUR: 'it returns false'. Refute it at one input. -/
def extCutsWrong : ChangeSpec := { name := "extCuts", fn := fun _ => fun
  | [d1, d2, d3] => { results := [.lit (.bool false)], args := [d1, d2, d3] }
  | _ => none }
def ExtCutsWrongFalsely : Prop := extCutsRow.holds Try.pinned (OpenSpec.ofChange extCutsWrong)

/-- 'scorialaw07.ExtOvers': WHATEVER THE INPUT: true; the input reads as it did. -/
def extOversSpec : ChangeSpec := { name := "extOvers", fn := fun _ => fun
  | [d1, d2] => { results := [.lit (.bool true)], args := [d1, d2] }
  | _ => none }
def extOversRow : OpenClaim := { program := "ytilhghpphpcfhaa", sum := "197b44f6789d7264018526c171fdf9099b9a684a7a38d45eab2448b8b83beeae", func := "scoria/scorialaw07.ExtOvers", spec := "extOvers", apart := false }
def ExtOversSaid : Prop := extOversRow.holds Try.pinned (OpenSpec.ofChange extOversSpec)

/-- ITS FALSE NEIGHBOUR: 'it returns false'. Refute it at one input. -/
def extOversWrong : ChangeSpec := { name := "extOvers", fn := fun _ => fun
  | [d1, d2] => { results := [.lit (.bool false)], args := [d1, d2] }
  | _ => none }
def ExtOversWrongFalsely : Prop := extOversRow.holds Try.pinned (OpenSpec.ofChange extOversWrong)

/-- 'scorialaw07.ExtOnce': WHATEVER THE INPUT: true; the input reads as it did. -/
def extOnceSpec : ChangeSpec := { name := "extOnce", fn := fun _ => fun
  | [d1, d2, d3] => { results := [.lit (.bool true)], args := [d1, d2, d3] }
  | _ => none }
def extOnceRow : OpenClaim := { program := "ytilhghpphpcfhaa", sum := "197b44f6789d7264018526c171fdf9099b9a684a7a38d45eab2448b8b83beeae", func := "scoria/scorialaw07.ExtOnce", spec := "extOnce", apart := false }
def ExtOnceSaid : Prop := extOnceRow.holds Try.pinned (OpenSpec.ofChange extOnceSpec)

/-- ITS FALSE NEIGHBOUR: 'it returns false'. Refute it at one input. -/
def extOnceWrong : ChangeSpec := { name := "extOnce", fn := fun _ => fun
  | [d1, d2, d3] => { results := [.lit (.bool false)], args := [d1, d2, d3] }
  | _ => none }
def ExtOnceWrongFalsely : Prop := extOnceRow.holds Try.pinned (OpenSpec.ofChange extOnceWrong)

/-- 'scorialaw07.ExtOrder': WHATEVER THE INPUT: true; the input reads as it did. -/
def extOrderSpec : ChangeSpec := { name := "extOrder", fn := fun _ => fun
  | [d1, d2, d3] => { results := [.lit (.bool true)], args := [d1, d2, d3] }
  | _ => none }
def extOrderRow : OpenClaim := { program := "ytilhghpphpcfhaa", sum := "197b44f6789d7264018526c171fdf9099b9a684a7a38d45eab2448b8b83beeae", func := "scoria/scorialaw07.ExtOrder", spec := "extOrder", apart := false }
def ExtOrderSaid : Prop := extOrderRow.holds Try.pinned (OpenSpec.ofChange extOrderSpec)

/-- ITS FALSE NEIGHBOUR: 'it returns false'. Refute it at one input. -/
def extOrderWrong : ChangeSpec := { name := "extOrder", fn := fun _ => fun
  | [d1, d2, d3] => { results := [.lit (.bool false)], args := [d1, d2, d3] }
  | _ => none }
def ExtOrderWrongFalsely : Prop := extOrderRow.holds Try.pinned (OpenSpec.ofChange extOrderWrong)

/-- 'scorialaw07.ExtClips': WHATEVER THE INPUT: true; the input reads as it did. -/
def extClipsSpec : ChangeSpec := { name := "extClips", fn := fun _ => fun
  | [d1, d2, d3] => { results := [.lit (.bool true)], args := [d1, d2, d3] }
  | _ => none }
def extClipsRow : OpenClaim := { program := "ytilhghpphpcfhaa", sum := "197b44f6789d7264018526c171fdf9099b9a684a7a38d45eab2448b8b83beeae", func := "scoria/scorialaw07.ExtClips", spec := "extClips", apart := false }
def ExtClipsSaid : Prop := extClipsRow.holds Try.pinned (OpenSpec.ofChange extClipsSpec)

/-- ITS FALSE NEIGHBOUR: 'it returns false'. Refute it at one input. -/
def extClipsWrong : ChangeSpec := { name := "extClips", fn := fun _ => fun
  | [d1, d2, d3] => { results := [.lit (.bool false)], args := [d1, d2, d3] }
  | _ => none }
def ExtClipsWrongFalsely : Prop := extClipsRow.holds Try.pinned (OpenSpec.ofChange extClipsWrong)

/-- 'scorialaw07.ExtWhole': WHATEVER THE INPUT: true; the input reads as it did. -/
def extWholeSpec : ChangeSpec := { name := "extWhole", fn := fun _ => fun
  | [d1, d2, d3] => { results := [.lit (.bool true)], args := [d1, d2, d3] }
  | _ => none }
def extWholeRow : OpenClaim := { program := "ytilhghpphpcfhaa", sum := "197b44f6789d7264018526c171fdf9099b9a684a7a38d45eab2448b8b83beeae", func := "scoria/scorialaw07.ExtWhole", spec := "extWhole", apart := false }
def ExtWholeSaid : Prop := extWholeRow.holds Try.pinned (OpenSpec.ofChange extWholeSpec)

/-- ITS FALSE NEIGHBOUR: 'it returns false'. Refute it at one input. -/
def extWholeWrong : ChangeSpec := { name := "extWhole", fn := fun _ => fun
  | [d1, d2, d3] => { results := [.lit (.bool false)], args := [d1, d2, d3] }
  | _ => none }
def ExtWholeWrongFalsely : Prop := extWholeRow.holds Try.pinned (OpenSpec.ofChange extWholeWrong)

/-- 'scorialaw07.ExtChecks': WHATEVER THE INPUT: true; the input reads as it did. -/
def extChecksSpec : ChangeSpec := { name := "extChecks", fn := fun _ => fun
  | [d1, d2, d3] => { results := [.lit (.bool true)], args := [d1, d2, d3] }
  | _ => none }
def extChecksRow : OpenClaim := { program := "ytilhghpphpcfhaa", sum := "197b44f6789d7264018526c171fdf9099b9a684a7a38d45eab2448b8b83beeae", func := "scoria/scorialaw07.ExtChecks", spec := "extChecks", apart := false }
def ExtChecksSaid : Prop := extChecksRow.holds Try.pinned (OpenSpec.ofChange extChecksSpec)

/-- ITS FALSE NEIGHBOUR: 'it returns false'. Refute it at one input. -/
def extChecksWrong : ChangeSpec := { name := "extChecks", fn := fun _ => fun
  | [d1, d2, d3] => { results := [.lit (.bool false)], args := [d1, d2, d3] }
  | _ => none }
def ExtChecksWrongFalsely : Prop := extChecksRow.holds Try.pinned (OpenSpec.ofChange extChecksWrong)

/-- 'scorialaw07.ExtFinds': WHATEVER THE INPUT: true; the input reads as it did. -/
def extFindsSpec : ChangeSpec := { name := "extFinds", fn := fun _ => fun
  | [d1, d2] => { results := [.lit (.bool true)], args := [d1, d2] }
  | _ => none }
def extFindsRow : OpenClaim := { program := "ytilhghpphpcfhaa", sum := "197b44f6789d7264018526c171fdf9099b9a684a7a38d45eab2448b8b83beeae", func := "scoria/scorialaw07.ExtFinds", spec := "extFinds", unfollowed := true, recurses := true, apart := false }
def ExtFindsSaid : Prop := extFindsRow.holds Try.pinned (OpenSpec.ofChange extFindsSpec)

/-- ITS FALSE NEIGHBOUR: 'it returns false'. Refute it at one input. -/
def extFindsWrong : ChangeSpec := { name := "extFinds", fn := fun _ => fun
  | [d1, d2] => { results := [.lit (.bool false)], args := [d1, d2] }
  | _ => none }
def ExtFindsWrongFalsely : Prop := extFindsRow.holds Try.pinned (OpenSpec.ofChange extFindsWrong)

/-- 'scorialaw07.ExtCounts': WHATEVER THE INPUT: true; the input reads as it did. -/
def extCountsSpec : ChangeSpec := { name := "extCounts", fn := fun _ => fun
  | [d] => { results := [.lit (.bool true)], args := [d] }
  | _ => none }
def extCountsRow : OpenClaim := { program := "ytilhghpphpcfhaa", sum := "197b44f6789d7264018526c171fdf9099b9a684a7a38d45eab2448b8b83beeae", func := "scoria/scorialaw07.ExtCounts", spec := "extCounts", apart := false }
def ExtCountsSaid : Prop := extCountsRow.holds Try.pinned (OpenSpec.ofChange extCountsSpec)

/-- ITS FALSE NEIGHBOUR: 'it returns false'. Refute it at one input. -/
def extCountsWrong : ChangeSpec := { name := "extCounts", fn := fun _ => fun
  | [d] => { results := [.lit (.bool false)], args := [d] }
  | _ => none }
def ExtCountsWrongFalsely : Prop := extCountsRow.holds Try.pinned (OpenSpec.ofChange extCountsWrong)

/-- 'scorialaw07.ExtMoves': WHATEVER THE INPUT: true; the input reads as it did. -/
def extMovesSpec : ChangeSpec := { name := "extMoves", fn := fun _ => fun
  | [d1, d2, d3] => { results := [.lit (.bool true)], args := [d1, d2, d3] }
  | _ => none }
def extMovesRow : OpenClaim := { program := "ytilhghpphpcfhaa", sum := "197b44f6789d7264018526c171fdf9099b9a684a7a38d45eab2448b8b83beeae", func := "scoria/scorialaw07.ExtMoves", spec := "extMoves", unfollowed := true, recurses := true, apart := false }
def ExtMovesSaid : Prop := extMovesRow.holds Try.pinned (OpenSpec.ofChange extMovesSpec)

/-- ITS FALSE NEIGHBOUR: 'it returns false'. Refute it at one input. -/
def extMovesWrong : ChangeSpec := { name := "extMoves", fn := fun _ => fun
  | [d1, d2, d3] => { results := [.lit (.bool false)], args := [d1, d2, d3] }
  | _ => none }
def ExtMovesWrongFalsely : Prop := extMovesRow.holds Try.pinned (OpenSpec.ofChange extMovesWrong)

/- THE SECOND FORM. 'bulk': how many values and letters a reading holds, each counted each time it is reached (what is shared counts as often as it is met; a slice's spare places count too). A statement '..UptoSaid' is the law's where the arguments, and the package variables that the reading takes, are together of bulk at most 1048576: NARROWER than '..Said'. Prove '..Said' where nothing that the law and all that it calls make is longer than what came in: it says more and counts as full. Else prove '..UptoSaid'. A law counts once. -/
mutual
def uptoBulk {H : Type} : DataW H → Nat
  | .lit (.string bytes) => bytes.length + 1
  | .lit _ => 1
  | .nil => 1
  | .ptr d => uptoBulk d + 1
  | .slice elems spare => uptoBulkAll elems + uptoBulkAll spare + 1
  | .agg parts => uptoBulkAll parts + 1
  | .iface _ d => uptoBulk d + 1
  | .map entries => uptoBulkEntries entries + 1
  | .held _ => 1
def uptoBulkAll {H : Type} : List (DataW H) → Nat
  | [] => 0
  | d :: r => uptoBulk d + uptoBulkAll r
def uptoBulkEntries {H : Type} : List (Lit × DataW H) → Nat
  | [] => 0
  | x :: r => uptoBulkEntry x + uptoBulkEntries r
def uptoBulkEntry {H : Type} : Lit × DataW H → Nat
  | (.string bytes, d) => bytes.length + uptoBulk d + 1
  | (_, d) => uptoBulk d + 1
 end
def uptoSmall : (H : Type) → List (DataW H) → Bool := fun _ ds => decide (uptoBulkAll ds ≤ 1048576)
def OpenSpec.upto (s : _root_.Go.ChangeSpec) : _root_.Go.OpenSpec := { _root_.Go.OpenSpec.ofChange s with cond := some uptoSmall }

/-- 'scorialaw07.ExtCuts', WHERE WHAT IT READS IS OF BULK AT MOST 1048576: true; the input reads as it did. -/
def extCutsUptoRow : OpenClaim := { program := "ytilhghpphpcfhaa", sum := "197b44f6789d7264018526c171fdf9099b9a684a7a38d45eab2448b8b83beeae", func := "scoria/scorialaw07.ExtCuts", spec := "extCuts", apart := false, narrowed := true }
def ExtCutsUptoSaid : Prop := extCutsUptoRow.holds Try.pinned (OpenSpec.upto extCutsSpec)

/-- 'scorialaw07.ExtOvers', WHERE WHAT IT READS IS OF BULK AT MOST 1048576: true; the input reads as it did. -/
def extOversUptoRow : OpenClaim := { program := "ytilhghpphpcfhaa", sum := "197b44f6789d7264018526c171fdf9099b9a684a7a38d45eab2448b8b83beeae", func := "scoria/scorialaw07.ExtOvers", spec := "extOvers", apart := false, narrowed := true }
def ExtOversUptoSaid : Prop := extOversUptoRow.holds Try.pinned (OpenSpec.upto extOversSpec)

/-- 'scorialaw07.ExtOnce', WHERE WHAT IT READS IS OF BULK AT MOST 1048576: true; the input reads as it did. -/
def extOnceUptoRow : OpenClaim := { program := "ytilhghpphpcfhaa", sum := "197b44f6789d7264018526c171fdf9099b9a684a7a38d45eab2448b8b83beeae", func := "scoria/scorialaw07.ExtOnce", spec := "extOnce", apart := false, narrowed := true }
def ExtOnceUptoSaid : Prop := extOnceUptoRow.holds Try.pinned (OpenSpec.upto extOnceSpec)

/-- 'scorialaw07.ExtOrder', WHERE WHAT IT READS IS OF BULK AT MOST 1048576: true; the input reads as it did. -/
def extOrderUptoRow : OpenClaim := { program := "ytilhghpphpcfhaa", sum := "197b44f6789d7264018526c171fdf9099b9a684a7a38d45eab2448b8b83beeae", func := "scoria/scorialaw07.ExtOrder", spec := "extOrder", apart := false, narrowed := true }
def ExtOrderUptoSaid : Prop := extOrderUptoRow.holds Try.pinned (OpenSpec.upto extOrderSpec)

/-- 'scorialaw07.ExtClips', WHERE WHAT IT READS IS OF BULK AT MOST 1048576: true; the input reads as it did. -/
def extClipsUptoRow : OpenClaim := { program := "ytilhghpphpcfhaa", sum := "197b44f6789d7264018526c171fdf9099b9a684a7a38d45eab2448b8b83beeae", func := "scoria/scorialaw07.ExtClips", spec := "extClips", apart := false, narrowed := true }
def ExtClipsUptoSaid : Prop := extClipsUptoRow.holds Try.pinned (OpenSpec.upto extClipsSpec)

/-- 'scorialaw07.ExtWhole', WHERE WHAT IT READS IS OF BULK AT MOST 1048576: true; the input reads as it did. -/
def extWholeUptoRow : OpenClaim := { program := "ytilhghpphpcfhaa", sum := "197b44f6789d7264018526c171fdf9099b9a684a7a38d45eab2448b8b83beeae", func := "scoria/scorialaw07.ExtWhole", spec := "extWhole", apart := false, narrowed := true }
def ExtWholeUptoSaid : Prop := extWholeUptoRow.holds Try.pinned (OpenSpec.upto extWholeSpec)

/-- 'scorialaw07.ExtChecks', WHERE WHAT IT READS IS OF BULK AT MOST 1048576: true; the input reads as it did. -/
def extChecksUptoRow : OpenClaim := { program := "ytilhghpphpcfhaa", sum := "197b44f6789d7264018526c171fdf9099b9a684a7a38d45eab2448b8b83beeae", func := "scoria/scorialaw07.ExtChecks", spec := "extChecks", apart := false, narrowed := true }
def ExtChecksUptoSaid : Prop := extChecksUptoRow.holds Try.pinned (OpenSpec.upto extChecksSpec)

/-- 'scorialaw07.ExtFinds', WHERE WHAT IT READS IS OF BULK AT MOST 1048576: true; the input reads as it did. -/
def extFindsUptoRow : OpenClaim := { program := "ytilhghpphpcfhaa", sum := "197b44f6789d7264018526c171fdf9099b9a684a7a38d45eab2448b8b83beeae", func := "scoria/scorialaw07.ExtFinds", spec := "extFinds", unfollowed := true, recurses := true, apart := false, narrowed := true }
def ExtFindsUptoSaid : Prop := extFindsUptoRow.holds Try.pinned (OpenSpec.upto extFindsSpec)

/-- 'scorialaw07.ExtCounts', WHERE WHAT IT READS IS OF BULK AT MOST 1048576: true; the input reads as it did. -/
def extCountsUptoRow : OpenClaim := { program := "ytilhghpphpcfhaa", sum := "197b44f6789d7264018526c171fdf9099b9a684a7a38d45eab2448b8b83beeae", func := "scoria/scorialaw07.ExtCounts", spec := "extCounts", apart := false, narrowed := true }
def ExtCountsUptoSaid : Prop := extCountsUptoRow.holds Try.pinned (OpenSpec.upto extCountsSpec)

/-- 'scorialaw07.ExtMoves', WHERE WHAT IT READS IS OF BULK AT MOST 1048576: true; the input reads as it did. -/
def extMovesUptoRow : OpenClaim := { program := "ytilhghpphpcfhaa", sum := "197b44f6789d7264018526c171fdf9099b9a684a7a38d45eab2448b8b83beeae", func := "scoria/scorialaw07.ExtMoves", spec := "extMoves", unfollowed := true, recurses := true, apart := false, narrowed := true }
def ExtMovesUptoSaid : Prop := extMovesUptoRow.holds Try.pinned (OpenSpec.upto extMovesSpec)

end Rows
end Go.Proofs.Ytilhghpphpcfhaa
