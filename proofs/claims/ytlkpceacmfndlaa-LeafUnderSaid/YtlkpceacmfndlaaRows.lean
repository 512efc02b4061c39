/-
  No cell of these rows narrows 'for every input' (looked for: loops, veiled, ifaces, maps, wideKeys, modest, calm, conditions, laid).
  DERIVED. THE GIVEN ROWS OF THIS SEAT. 6 by the template 'for every input the law returns true; each argument reads behind the call as it read before'; 0 by the template 'total and deterministic' (their statements: YtlkpceacmfndlaaTotals.lean).
  GIVEN WITH THE SEED: the statements are not yours to turn. If you find one false, say at which input.
  Laid BY PROGRAM, IN A SANDBOX (cutbox-rows.mjs): the forced cells as the released guide's own fill.sh prints them over the translation 940b97d590c40fc1… (all of the seat's roots in one cut). By AI agents, Wed Nov 11 2026. No macro, syntax, notation, axiom, sorry.
-/
import Derived.Test.YtlkpceacmfndlaaChecked
import GoSem.Claim
import GoSem.ClaimJoined
import GoSem.ClaimMapViews
import Derived.JoinedTies
import Derived.KernelRfl
namespace Go.Proofs.Ytlkpceacmfndlaa
/- THE CELL 'sum', in the pinned program and in every row, IS THE sha256 OF THE DUMP (.gsa) THAT YtlkpceacmfndlaaProg.lean LOADS. Nothing in Lean hashes anything: it is a label: what it is worth is what the hold of that sum in a sandbox is worth. -/
noncomputable def Try.pinned : Pinned := { name := "ytlkpceacmfndlaa", sum := "940b97d590c40fc17e88bfb7aaf2cff2d56812be0d1178da873b40a875d3db88", checked := Try.checked }
namespace Rows
def none {H : Type} : Left H := { results := [], args := [] }

/-- 'scorialaw09.LeafWrites': WHATEVER THE INPUT: true; the input reads as it did. -/
def leafWritesSpec : ChangeSpec := { name := "leafWrites", fn := fun _ => fun
  | [d] => { results := [.lit (.bool true)], args := [d] }
  | _ => none }
def leafWritesRow : OpenClaim := { program := "ytlkpceacmfndlaa", sum := "940b97d590c40fc17e88bfb7aaf2cff2d56812be0d1178da873b40a875d3db88", func := "scoria/scorialaw09.LeafWrites", spec := "leafWrites", inPlace := ["internal/abi.NoEscape"], unfollowed := true, recurses := true, apart := false }
def LeafWritesSaid : Prop := leafWritesRow.holds Try.pinned (OpenSpec.ofChange leafWritesSpec)

/-- ITS FALSE NEIGHBOUR: 'it returns false'. Refute it at one input. -/
def leafWritesWrong : ChangeSpec := { name := "leafWrites", fn := fun _ => fun
  | [d] => { results := [.lit (.bool false)], args := [d] }
  | _ => none }
def LeafWritesWrongFalsely : Prop := leafWritesRow.holds Try.pinned (OpenSpec.ofChange leafWritesWrong)

/-- 'scorialaw09.LeafReads': WHATEVER THE INPUT: true; the input reads as it did. -/
def leafReadsSpec : ChangeSpec := { name := "leafReads", fn := fun _ => fun
  | [d] => { results := [.lit (.bool true)], args := [d] }
  | _ => none }
def leafReadsRow : OpenClaim := { program := "ytlkpceacmfndlaa", sum := "940b97d590c40fc17e88bfb7aaf2cff2d56812be0d1178da873b40a875d3db88", func := "scoria/scorialaw09.LeafReads", spec := "leafReads", inPlace := ["internal/abi.NoEscape"], unfollowed := true, recurses := true, apart := false }
def LeafReadsSaid : Prop := leafReadsRow.holds Try.pinned (OpenSpec.ofChange leafReadsSpec)

/-- ITS FALSE NEIGHBOUR: 'it returns false'. Refute it at one input. -/
def leafReadsWrong : ChangeSpec := { name := "leafReads", fn := fun _ => fun
  | [d] => { results := [.lit (.bool false)], args := [d] }
  | _ => none }
def LeafReadsWrongFalsely : Prop := leafReadsRow.holds Try.pinned (OpenSpec.ofChange leafReadsWrong)

/-- 'scorialaw09.LeafInner': WHATEVER THE INPUT: true; the input reads as it did. -/
def leafInnerSpec : ChangeSpec := { name := "leafInner", fn := fun _ => fun
  | [d] => { results := [.lit (.bool true)], args := [d] }
  | _ => none }
def leafInnerRow : OpenClaim := { program := "ytlkpceacmfndlaa", sum := "940b97d590c40fc17e88bfb7aaf2cff2d56812be0d1178da873b40a875d3db88", func := "scoria/scorialaw09.LeafInner", spec := "leafInner", inPlace := ["internal/abi.NoEscape"], unfollowed := true, recurses := true, apart := false }
def LeafInnerSaid : Prop := leafInnerRow.holds Try.pinned (OpenSpec.ofChange leafInnerSpec)

/-- ITS FALSE NEIGHBOUR: 'it returns false'. Refute it at one input. -/
def leafInnerWrong : ChangeSpec := { name := "leafInner", fn := fun _ => fun
  | [d] => { results := [.lit (.bool false)], args := [d] }
  | _ => none }
def LeafInnerWrongFalsely : Prop := leafInnerRow.holds Try.pinned (OpenSpec.ofChange leafInnerWrong)

/-- 'scorialaw09.LeafHalves': WHATEVER THE INPUT: true; the input reads as it did. -/
def leafHalvesSpec : ChangeSpec := { name := "leafHalves", fn := fun _ => fun
  | [d1, d2, d3] => { results := [.lit (.bool true)], args := [d1, d2, d3] }
  | _ => none }
def leafHalvesRow : OpenClaim := { program := "ytlkpceacmfndlaa", sum := "940b97d590c40fc17e88bfb7aaf2cff2d56812be0d1178da873b40a875d3db88", func := "scoria/scorialaw09.LeafHalves", spec := "leafHalves", inPlace := ["internal/abi.NoEscape"], unfollowed := true, recurses := true, apart := false }
def LeafHalvesSaid : Prop := leafHalvesRow.holds Try.pinned (OpenSpec.ofChange leafHalvesSpec)

/-- ITS FALSE NEIGHBOUR: 'it returns false'. Refute it at one input. -/
def leafHalvesWrong : ChangeSpec := { name := "leafHalves", fn := fun _ => fun
  | [d1, d2, d3] => { results := [.lit (.bool false)], args := [d1, d2, d3] }
  | _ => none }
def LeafHalvesWrongFalsely : Prop := leafHalvesRow.holds Try.pinned (OpenSpec.ofChange leafHalvesWrong)

/-- 'scorialaw09.LeafBack': WHATEVER THE INPUT: true; the input reads as it did. -/
def leafBackSpec : ChangeSpec := { name := "leafBack", fn := fun _ => fun
  | [d1, d2, d3] => { results := [.lit (.bool true)], args := [d1, d2, d3] }
  | _ => none }
def leafBackRow : OpenClaim := { program := "ytlkpceacmfndlaa", sum := "940b97d590c40fc17e88bfb7aaf2cff2d56812be0d1178da873b40a875d3db88", func := "scoria/scorialaw09.LeafBack", spec := "leafBack", inPlace := ["internal/abi.NoEscape"], unfollowed := true, recurses := true, apart := false }
def LeafBackSaid : Prop := leafBackRow.holds Try.pinned (OpenSpec.ofChange leafBackSpec)

/-- ITS FALSE NEIGHBOUR: 'it returns false'. Refute it at one input. -/
def leafBackWrong : ChangeSpec := { name := "leafBack", fn := fun _ => fun
  | [d1, d2, d3] => { results := [.lit (.bool false)], args := [d1, d2, d3] }
  | _ => none }
def LeafBackWrongFalsely : Prop := leafBackRow.holds Try.pinned (OpenSpec.ofChange leafBackWrong)

/-- 'scorialaw09.LeafUnder': WHATEVER THE INPUT: true; the input reads as it did. -/
def leafUnderSpec : ChangeSpec := { name := "leafUnder", fn := fun _ => fun
  | [d1, d2] => { results := [.lit (.bool true)], args := [d1, d2] }
  | _ => none }
def leafUnderRow : OpenClaim := { program := "ytlkpceacmfndlaa", sum := "940b97d590c40fc17e88bfb7aaf2cff2d56812be0d1178da873b40a875d3db88", func := "scoria/scorialaw09.LeafUnder", spec := "leafUnder", inPlace := ["internal/abi.NoEscape"], unfollowed := true, recurses := true, apart := false }
def LeafUnderSaid : Prop := leafUnderRow.holds Try.pinned (OpenSpec.ofChange leafUnderSpec)

/-- ITS FALSE NEIGHBOUR: 'it returns false'. Refute it at one input. -/
def leafUnderWrong : ChangeSpec := { name := "leafUnder", fn := fun _ => fun
  | [d1, d2] => { results := [.lit (.bool false)], args := [d1, d2] }
  | _ => none }
def LeafUnderWrongFalsely : Prop := leafUnderRow.holds Try.pinned (OpenSpec.ofChange leafUnderWrong)

/- THE SECOND FORM. 'bulk': how many values and letters a reading holds, each counted each time it is reached (what is shared counts as often as it is met; a slice's spare places count too). A statement '..UptoSaid' is the law's where the arguments, and the package variables that the reading takes, are together of bulk at most 1048576: NARROWER than '..Said'. Prove '..Said' where nothing that the law and all that it calls make is longer than what came in: it says more and counts as full. Else prove '..UptoSaid'. A law counts once. -/
mutual
def uptoBulk {H : Type} : DataW H → Nat
  | .lit (.string bytes) => bytes.length + 1
  | .lit _ => 1
  | .nil => 1
  | .ptr d => uptoBulk d + 1
  | .slice elems spare => uptoBulkAll elems + uptoBulkAll spare + 1
  | .agg parts => uptoBulkAll parts + 1
  | .iface _ d => uptoBulk d + 1
  | .map entries => uptoBulkEntries entries + 1
  | .held _ => 1
def uptoBulkAll {H : Type} : List (DataW H) → Nat
  | [] => 0
  | d :: r => uptoBulk d + uptoBulkAll r
def uptoBulkEntries {H : Type} : List (Lit × DataW H) → Nat
  | [] => 0
  | x :: r => uptoBulkEntry x + uptoBulkEntries r
def uptoBulkEntry {H : Type} : Lit × DataW H → Nat
  | (.string bytes, d) => bytes.length + uptoBulk d + 1
  | (_, d) => uptoBulk d + 1
 end
def uptoSmall : (H : Type) → List (DataW H) → Bool := fun _ ds => decide (uptoBulkAll ds ≤ 1048576)
def OpenSpec.upto (s : _root_.Go.ChangeSpec) : _root_.Go.OpenSpec := { _root_.Go.OpenSpec.ofChange s with cond := some uptoSmall }

/-- 'scorialaw09.LeafWrites', WHERE WHAT IT READS IS OF BULK AT MOST 1048576: true; the input reads as it did. -/
def leafWritesUptoRow : OpenClaim := { program := "ytlkpceacmfndlaa", sum := "940b97d590c40fc17e88bfb7aaf2cff2d56812be0d1178da873b40a875d3db88", func := "scoria/scorialaw09.LeafWrites", spec := "leafWrites", inPlace := ["internal/abi.NoEscape"], unfollowed := true, recurses := true, apart := false, narrowed := true }
def LeafWritesUptoSaid : Prop := leafWritesUptoRow.holds Try.pinned (OpenSpec.upto leafWritesSpec)

/-- 'scorialaw09.LeafReads', WHERE WHAT IT READS IS OF BULK AT MOST 1048576: true; the input reads as it did. -/
def leafReadsUptoRow : OpenClaim := { program := "ytlkpceacmfndlaa", sum := "940b97d590c40fc17e88bfb7aaf2cff2d56812be0d1178da873b40a875d3db88", func := "scoria/scorialaw09.LeafReads", spec := "leafReads", inPlace := ["internal/abi.NoEscape"], unfollowed := true, recurses := true, apart := false, narrowed := true }
def LeafReadsUptoSaid : Prop := leafReadsUptoRow.holds Try.pinned (OpenSpec.upto leafReadsSpec)

/-- 'scorialaw09.LeafInner', WHERE WHAT IT READS IS OF BULK AT MOST 1048576: true; the input reads as it did. -/
def leafInnerUptoRow : OpenClaim := { program := "ytlkpceacmfndlaa", sum := "940b97d590c40fc17e88bfb7aaf2cff2d56812be0d1178da873b40a875d3db88", func := "scoria/scorialaw09.LeafInner", spec := "leafInner", inPlace := ["internal/abi.NoEscape"], unfollowed := true, recurses := true, apart := false, narrowed := true }
def LeafInnerUptoSaid : Prop := leafInnerUptoRow.holds Try.pinned (OpenSpec.upto leafInnerSpec)

/-- 'scorialaw09.LeafHalves', WHERE WHAT IT READS IS OF BULK AT MOST 1048576: true; the input reads as it did. -/
def leafHalvesUptoRow : OpenClaim := { program := "ytlkpceacmfndlaa", sum := "940b97d590c40fc17e88bfb7aaf2cff2d56812be0d1178da873b40a875d3db88", func := "scoria/scorialaw09.LeafHalves", spec := "leafHalves", inPlace := ["internal/abi.NoEscape"], unfollowed := true, recurses := true, apart := false, narrowed := true }
def LeafHalvesUptoSaid : Prop := leafHalvesUptoRow.holds Try.pinned (OpenSpec.upto leafHalvesSpec)

/-- 'scorialaw09.LeafBack', WHERE WHAT IT READS IS OF BULK AT MOST 1048576: true; the input reads as it did. -/
def leafBackUptoRow : OpenClaim := { program := "ytlkpceacmfndlaa", sum := "940b97d590c40fc17e88bfb7aaf2cff2d56812be0d1178da873b40a875d3db88", func := "scoria/scorialaw09.LeafBack", spec := "leafBack", inPlace := ["internal/abi.NoEscape"], unfollowed := true, recurses := true, apart := false, narrowed := true }
def LeafBackUptoSaid : Prop := leafBackUptoRow.holds Try.pinned (OpenSpec.upto leafBackSpec)

/-- 'scorialaw09.LeafUnder', WHERE WHAT IT READS IS OF BULK AT MOST 1048576: true; the input reads as it did. -/
def leafUnderUptoRow : OpenClaim := { program := "ytlkpceacmfndlaa", sum := "940b97d590c40fc17e88bfb7aaf2cff2d56812be0d1178da873b40a875d3db88", func := "scoria/scorialaw09.LeafUnder", spec := "leafUnder", inPlace := ["internal/abi.NoEscape"], unfollowed := true, recurses := true, apart := false, narrowed := true }
def LeafUnderUptoSaid : Prop := leafUnderUptoRow.holds Try.pinned (OpenSpec.upto leafUnderSpec)

end Rows
end Go.Proofs.Ytlkpceacmfndlaa
