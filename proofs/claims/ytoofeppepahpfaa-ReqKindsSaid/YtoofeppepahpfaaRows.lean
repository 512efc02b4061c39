/-
  No cell of these rows narrows 'for every input' (looked for: loops, veiled, ifaces, maps, wideKeys, modest, calm, conditions, laid).
  DERIVED. THE GIVEN ROWS OF THIS SEAT. 5 by the template 'for every input the law returns true; each argument reads behind the call as it read before'; 0 by the template 'total and deterministic' (their statements: YtoofeppepahpfaaTotals.lean).
  GIVEN WITH THE SEED: the statements are not yours to turn. If you find one false, say at which input.
  Laid BY PROGRAM, IN A SANDBOX (cutbox-rows.mjs): the forced cells as the released guide's own fill.sh prints them over the translation a14e448a0d70873b… (all of the seat's roots in one cut). By AI agents, Wed Nov 11 2026. No macro, syntax, notation, axiom, sorry.
-/
import Derived.Test.YtoofeppepahpfaaChecked
import GoSem.Claim
import GoSem.ClaimJoined
import GoSem.ClaimMapViews
import Derived.JoinedTies
import Derived.KernelRfl
namespace Go.Proofs.Ytoofeppepahpfaa
/- THE CELL 'sum', in the pinned program and in every row, IS THE sha256 OF THE DUMP (.gsa) THAT YtoofeppepahpfaaProg.lean LOADS. Nothing in Lean hashes anything: it is a label: what it is worth is what the hold of that sum in a sandbox is worth. -/
noncomputable def Try.pinned : Pinned := { name := "ytoofeppepahpfaa", sum := "a14e448a0d70873b5ae90f143230887ef66e9dc29a573c0336eaec0058a8f644", checked := Try.checked }
namespace Rows
def none {H : Type} : Left H := { results := [], args := [] }

/-- 'scorialaw16.ReqKinds': WHATEVER THE INPUT: true; the input reads as it did. -/
def reqKindsSpec : ChangeSpec := { name := "reqKinds", fn := fun _ => fun
  | [d] => { results := [.lit (.bool true)], args := [d] }
  | _ => none }
def reqKindsRow : OpenClaim := { program := "ytoofeppepahpfaa", sum := "a14e448a0d70873b5ae90f143230887ef66e9dc29a573c0336eaec0058a8f644", func := "scoria/scorialaw16.ReqKinds", spec := "reqKinds", inPlace := ["internal/abi.NoEscape"], unfollowed := true, recurses := true, apart := false }
def ReqKindsSaid : Prop := reqKindsRow.holds Try.pinned (OpenSpec.ofChange reqKindsSpec)

/-- ITS FALSE NEIGHBOUR: 'it returns false'. Refute it at one input. -/
def reqKindsWrong : ChangeSpec := { name := "reqKinds", fn := fun _ => fun
  | [d] => { results := [.lit (.bool false)], args := [d] }
  | _ => none }
def ReqKindsWrongFalsely : Prop := reqKindsRow.holds Try.pinned (OpenSpec.ofChange reqKindsWrong)

/-- 'scorialaw16.ReqWrites': WHATEVER THE INPUT: true; the input reads as it did. -/
def reqWritesSpec : ChangeSpec := { name := "reqWrites", fn := fun _ => fun
  | [d1, d2] => { results := [.lit (.bool true)], args := [d1, d2] }
  | _ => none }
def reqWritesRow : OpenClaim := { program := "ytoofeppepahpfaa", sum := "a14e448a0d70873b5ae90f143230887ef66e9dc29a573c0336eaec0058a8f644", func := "scoria/scorialaw16.ReqWrites", spec := "reqWrites", inPlace := ["internal/abi.NoEscape"], unfollowed := true, recurses := true, apart := false }
def ReqWritesSaid : Prop := reqWritesRow.holds Try.pinned (OpenSpec.ofChange reqWritesSpec)

/-- ITS FALSE NEIGHBOUR: 'it returns false'. Refute it at one input. -/
def reqWritesWrong : ChangeSpec := { name := "reqWrites", fn := fun _ => fun
  | [d1, d2] => { results := [.lit (.bool false)], args := [d1, d2] }
  | _ => none }
def ReqWritesWrongFalsely : Prop := reqWritesRow.holds Try.pinned (OpenSpec.ofChange reqWritesWrong)

/-- 'scorialaw16.ReqTurned': WHATEVER THE INPUT: true; the input reads as it did. -/
def reqTurnedSpec : ChangeSpec := { name := "reqTurned", fn := fun _ => fun
  | [d1, d2, d3] => { results := [.lit (.bool true)], args := [d1, d2, d3] }
  | _ => none }
def reqTurnedRow : OpenClaim := { program := "ytoofeppepahpfaa", sum := "a14e448a0d70873b5ae90f143230887ef66e9dc29a573c0336eaec0058a8f644", func := "scoria/scorialaw16.ReqTurned", spec := "reqTurned", inPlace := ["internal/abi.NoEscape"], unfollowed := true, recurses := true, apart := false }
def ReqTurnedSaid : Prop := reqTurnedRow.holds Try.pinned (OpenSpec.ofChange reqTurnedSpec)

/-- ITS FALSE NEIGHBOUR: 'it returns false'. Refute it at one input. -/
def reqTurnedWrong : ChangeSpec := { name := "reqTurned", fn := fun _ => fun
  | [d1, d2, d3] => { results := [.lit (.bool false)], args := [d1, d2, d3] }
  | _ => none }
def ReqTurnedWrongFalsely : Prop := reqTurnedRow.holds Try.pinned (OpenSpec.ofChange reqTurnedWrong)

/-- 'scorialaw16.ReqReads': WHATEVER THE INPUT: true; the input reads as it did. -/
def reqReadsSpec : ChangeSpec := { name := "reqReads", fn := fun _ => fun
  | [d] => { results := [.lit (.bool true)], args := [d] }
  | _ => none }
def reqReadsRow : OpenClaim := { program := "ytoofeppepahpfaa", sum := "a14e448a0d70873b5ae90f143230887ef66e9dc29a573c0336eaec0058a8f644", func := "scoria/scorialaw16.ReqReads", spec := "reqReads", inPlace := ["internal/abi.NoEscape"], unfollowed := true, recurses := true, apart := false }
def ReqReadsSaid : Prop := reqReadsRow.holds Try.pinned (OpenSpec.ofChange reqReadsSpec)

/-- ITS FALSE NEIGHBOUR: 'it returns false'. Refute it at one input. -/
def reqReadsWrong : ChangeSpec := { name := "reqReads", fn := fun _ => fun
  | [d] => { results := [.lit (.bool false)], args := [d] }
  | _ => none }
def ReqReadsWrongFalsely : Prop := reqReadsRow.holds Try.pinned (OpenSpec.ofChange reqReadsWrong)

/-- 'scorialaw16.ReqBack': WHATEVER THE INPUT: true; the input reads as it did. -/
def reqBackSpec : ChangeSpec := { name := "reqBack", fn := fun _ => fun
  | [d1, d2, d3] => { results := [.lit (.bool true)], args := [d1, d2, d3] }
  | _ => none }
def reqBackRow : OpenClaim := { program := "ytoofeppepahpfaa", sum := "a14e448a0d70873b5ae90f143230887ef66e9dc29a573c0336eaec0058a8f644", func := "scoria/scorialaw16.ReqBack", spec := "reqBack", inPlace := ["internal/abi.NoEscape"], unfollowed := true, recurses := true, apart := false }
def ReqBackSaid : Prop := reqBackRow.holds Try.pinned (OpenSpec.ofChange reqBackSpec)

/-- ITS FALSE NEIGHBOUR: 'it returns false'. Refute it at one input. -/
def reqBackWrong : ChangeSpec := { name := "reqBack", fn := fun _ => fun
  | [d1, d2, d3] => { results := [.lit (.bool false)], args := [d1, d2, d3] }
  | _ => none }
def ReqBackWrongFalsely : Prop := reqBackRow.holds Try.pinned (OpenSpec.ofChange reqBackWrong)

/- THE SECOND FORM. 'bulk': how many values and letters a reading holds, each counted each time it is reached (what is shared counts as often as it is met; a slice's spare places count too). A statement '..UptoSaid' is the law's where the arguments, and the package variables that the reading takes, are together of bulk at most 1048576: NARROWER than '..Said'. Prove '..Said' where nothing that the law and all that it calls make is longer than what came in: it says more and counts as full. Else prove '..UptoSaid'. A law counts once. -/
mutual
def uptoBulk {H : Type} : DataW H → Nat
  | .lit (.string bytes) => bytes.length + 1
  | .lit _ => 1
  | .nil => 1
  | .ptr d => uptoBulk d + 1
  | .slice elems spare => uptoBulkAll elems + uptoBulkAll spare + 1
  | .agg parts => uptoBulkAll parts + 1
  | .iface _ d => uptoBulk d + 1
  | .map entries => uptoBulkEntries entries + 1
  | .held _ => 1
def uptoBulkAll {H : Type} : List (DataW H) → Nat
  | [] => 0
  | d :: r => uptoBulk d + uptoBulkAll r
def uptoBulkEntries {H : Type} : List (Lit × DataW H) → Nat
  | [] => 0
  | x :: r => uptoBulkEntry x + uptoBulkEntries r
def uptoBulkEntry {H : Type} : Lit × DataW H → Nat
  | (.string bytes, d) => bytes.length + uptoBulk d + 1
  | (_, d) => uptoBulk d + 1
 end
def uptoSmall : (H : Type) → List (DataW H) → Bool := fun _ ds => decide (uptoBulkAll ds ≤ 1048576)
def OpenSpec.upto (s : _root_.Go.ChangeSpec) : _root_.Go.OpenSpec := { _root_.Go.OpenSpec.ofChange s with cond := some uptoSmall }

/-- 'scorialaw16.ReqKinds', WHERE WHAT IT READS IS OF BULK AT MOST 1048576: true; the input reads as it did. -/
def reqKindsUptoRow : OpenClaim := { program := "ytoofeppepahpfaa", sum := "a14e448a0d70873b5ae90f143230887ef66e9dc29a573c0336eaec0058a8f644", func := "scoria/scorialaw16.ReqKinds", spec := "reqKinds", inPlace := ["internal/abi.NoEscape"], unfollowed := true, recurses := true, apart := false, narrowed := true }
def ReqKindsUptoSaid : Prop := reqKindsUptoRow.holds Try.pinned (OpenSpec.upto reqKindsSpec)

/-- 'scorialaw16.ReqWrites', WHERE WHAT IT READS IS OF BULK AT MOST 1048576: true; the input reads as it did. -/
def reqWritesUptoRow : OpenClaim := { program := "ytoofeppepahpfaa", sum := "a14e448a0d70873b5ae90f143230887ef66e9dc29a573c0336eaec0058a8f644", func := "scoria/scorialaw16.ReqWrites", spec := "reqWrites", inPlace := ["internal/abi.NoEscape"], unfollowed := true, recurses := true, apart := false, narrowed := true }
def ReqWritesUptoSaid : Prop := reqWritesUptoRow.holds Try.pinned (OpenSpec.upto reqWritesSpec)

/-- 'scorialaw16.ReqTurned', WHERE WHAT IT READS IS OF BULK AT MOST 1048576: true; the input reads as it did. -/
def reqTurnedUptoRow : OpenClaim := { program := "ytoofeppepahpfaa", sum := "a14e448a0d70873b5ae90f143230887ef66e9dc29a573c0336eaec0058a8f644", func := "scoria/scorialaw16.ReqTurned", spec := "reqTurned", inPlace := ["internal/abi.NoEscape"], unfollowed := true, recurses := true, apart := false, narrowed := true }
def ReqTurnedUptoSaid : Prop := reqTurnedUptoRow.holds Try.pinned (OpenSpec.upto reqTurnedSpec)

/-- 'scorialaw16.ReqReads', WHERE WHAT IT READS IS OF BULK AT MOST 1048576: true; the input reads as it did. -/
def reqReadsUptoRow : OpenClaim := { program := "ytoofeppepahpfaa", sum := "a14e448a0d70873b5ae90f143230887ef66e9dc29a573c0336eaec0058a8f644", func := "scoria/scorialaw16.ReqReads", spec := "reqReads", inPlace := ["internal/abi.NoEscape"], unfollowed := true, recurses := true, apart := false, narrowed := true }
def ReqReadsUptoSaid : Prop := reqReadsUptoRow.holds Try.pinned (OpenSpec.upto reqReadsSpec)

/-- 'scorialaw16.ReqBack', WHERE WHAT IT READS IS OF BULK AT MOST 1048576: true; the input reads as it did. -/
def reqBackUptoRow : OpenClaim := { program := "ytoofeppepahpfaa", sum := "a14e448a0d70873b5ae90f143230887ef66e9dc29a573c0336eaec0058a8f644", func := "scoria/scorialaw16.ReqBack", spec := "reqBack", inPlace := ["internal/abi.NoEscape"], unfollowed := true, recurses := true, apart := false, narrowed := true }
def ReqBackUptoSaid : Prop := reqBackUptoRow.holds Try.pinned (OpenSpec.upto reqBackSpec)

end Rows
end Go.Proofs.Ytoofeppepahpfaa
