/-
  No cell of these rows narrows 'for every input' (looked for: loops, veiled, ifaces, maps, wideKeys, modest, calm, conditions, laid).
  DERIVED. THE GIVEN ROWS OF THIS SEAT. 6 by the template 'for every input the law returns true; each argument reads behind the call as it read before'; 0 by the template 'total and deterministic' (their statements: YtklniadgdbjcpaaTotals.lean).
  GIVEN WITH THE SEED: the statements are not yours to turn. If you find one false, say at which input.
  Laid BY PROGRAM, IN A SANDBOX (cutbox-rows.mjs): the forced cells as the released guide's own fill.sh prints them over the translation 7e05d47c8286bbf6… (all of the seat's roots in one cut). By AI agents, Wed Nov 11 2026. No macro, syntax, notation, axiom, sorry.
-/
import Derived.Test.YtklniadgdbjcpaaChecked
import GoSem.Claim
import GoSem.ClaimJoined
import GoSem.ClaimMapViews
import Derived.JoinedTies
import Derived.KernelRfl
namespace Go.Proofs.Ytklniadgdbjcpaa
/- THE CELL 'sum', in the pinned program and in every row, IS THE sha256 OF THE DUMP (.gsa) THAT YtklniadgdbjcpaaProg.lean LOADS. Nothing in Lean hashes anything: it is a label: what it is worth is what the hold of that sum in a sandbox is worth. -/
noncomputable def Try.pinned : Pinned := { name := "ytklniadgdbjcpaa", sum := "7e05d47c8286bbf6522eb38e1a2ab5c58a50d78108e0d2da5a34b6df12bc520e", checked := Try.checked }
namespace Rows
def none {H : Type} : Left H := { results := [], args := [] }

/-- 'scorialaw12.RootWrites': WHATEVER THE INPUT: true; the input reads as it did. -/
def rootWritesSpec : ChangeSpec := { name := "rootWrites", fn := fun _ => fun
  | [d1, d2] => { results := [.lit (.bool true)], args := [d1, d2] }
  | _ => none }
def rootWritesRow : OpenClaim := { program := "ytklniadgdbjcpaa", sum := "7e05d47c8286bbf6522eb38e1a2ab5c58a50d78108e0d2da5a34b6df12bc520e", func := "scoria/scorialaw12.RootWrites", spec := "rootWrites", inPlace := ["internal/abi.NoEscape"], unfollowed := true, recurses := true, apart := false }
def RootWritesSaid : Prop := rootWritesRow.holds Try.pinned (OpenSpec.ofChange rootWritesSpec)

/-- ITS FALSE NEIGHBOUR: 'it returns false'. Refute it at one input. -/
def rootWritesWrong : ChangeSpec := { name := "rootWrites", fn := fun _ => fun
  | [d1, d2] => { results := [.lit (.bool false)], args := [d1, d2] }
  | _ => none }
def RootWritesWrongFalsely : Prop := rootWritesRow.holds Try.pinned (OpenSpec.ofChange rootWritesWrong)

/-- 'scorialaw12.RootApart': WHATEVER THE INPUT: true; the input reads as it did. -/
def rootApartSpec : ChangeSpec := { name := "rootApart", fn := fun _ => fun
  | [d1, d2, d3] => { results := [.lit (.bool true)], args := [d1, d2, d3] }
  | _ => none }
def rootApartRow : OpenClaim := { program := "ytklniadgdbjcpaa", sum := "7e05d47c8286bbf6522eb38e1a2ab5c58a50d78108e0d2da5a34b6df12bc520e", func := "scoria/scorialaw12.RootApart", spec := "rootApart", inPlace := ["internal/abi.NoEscape"], unfollowed := true, recurses := true, apart := false }
def RootApartSaid : Prop := rootApartRow.holds Try.pinned (OpenSpec.ofChange rootApartSpec)

/-- ITS FALSE NEIGHBOUR: 'it returns false'. Refute it at one input. -/
def rootApartWrong : ChangeSpec := { name := "rootApart", fn := fun _ => fun
  | [d1, d2, d3] => { results := [.lit (.bool false)], args := [d1, d2, d3] }
  | _ => none }
def RootApartWrongFalsely : Prop := rootApartRow.holds Try.pinned (OpenSpec.ofChange rootApartWrong)

/-- 'scorialaw12.RootFinds': WHATEVER THE INPUT: true; the input reads as it did. -/
def rootFindsSpec : ChangeSpec := { name := "rootFinds", fn := fun _ => fun
  | [d1, d2] => { results := [.lit (.bool true)], args := [d1, d2] }
  | _ => none }
def rootFindsRow : OpenClaim := { program := "ytklniadgdbjcpaa", sum := "7e05d47c8286bbf6522eb38e1a2ab5c58a50d78108e0d2da5a34b6df12bc520e", func := "scoria/scorialaw12.RootFinds", spec := "rootFinds", inPlace := ["internal/abi.NoEscape"], unfollowed := true, recurses := true, apart := false }
def RootFindsSaid : Prop := rootFindsRow.holds Try.pinned (OpenSpec.ofChange rootFindsSpec)

/-- ITS FALSE NEIGHBOUR: 'it returns false'. Refute it at one input. -/
def rootFindsWrong : ChangeSpec := { name := "rootFinds", fn := fun _ => fun
  | [d1, d2] => { results := [.lit (.bool false)], args := [d1, d2] }
  | _ => none }
def RootFindsWrongFalsely : Prop := rootFindsRow.holds Try.pinned (OpenSpec.ofChange rootFindsWrong)

/-- 'scorialaw12.RootReads': WHATEVER THE INPUT: true; the input reads as it did. -/
def rootReadsSpec : ChangeSpec := { name := "rootReads", fn := fun _ => fun
  | [d] => { results := [.lit (.bool true)], args := [d] }
  | _ => none }
def rootReadsRow : OpenClaim := { program := "ytklniadgdbjcpaa", sum := "7e05d47c8286bbf6522eb38e1a2ab5c58a50d78108e0d2da5a34b6df12bc520e", func := "scoria/scorialaw12.RootReads", spec := "rootReads", inPlace := ["internal/abi.NoEscape"], unfollowed := true, recurses := true, apart := false }
def RootReadsSaid : Prop := rootReadsRow.holds Try.pinned (OpenSpec.ofChange rootReadsSpec)

/-- ITS FALSE NEIGHBOUR: 'it returns false'. Refute it at one input. -/
def rootReadsWrong : ChangeSpec := { name := "rootReads", fn := fun _ => fun
  | [d] => { results := [.lit (.bool false)], args := [d] }
  | _ => none }
def RootReadsWrongFalsely : Prop := rootReadsRow.holds Try.pinned (OpenSpec.ofChange rootReadsWrong)

/-- 'scorialaw12.RootBack': WHATEVER THE INPUT: true; the input reads as it did. -/
def rootBackSpec : ChangeSpec := { name := "rootBack", fn := fun _ => fun
  | [d1, d2, d3] => { results := [.lit (.bool true)], args := [d1, d2, d3] }
  | _ => none }
def rootBackRow : OpenClaim := { program := "ytklniadgdbjcpaa", sum := "7e05d47c8286bbf6522eb38e1a2ab5c58a50d78108e0d2da5a34b6df12bc520e", func := "scoria/scorialaw12.RootBack", spec := "rootBack", inPlace := ["internal/abi.NoEscape"], unfollowed := true, recurses := true, apart := false }
def RootBackSaid : Prop := rootBackRow.holds Try.pinned (OpenSpec.ofChange rootBackSpec)

/-- ITS FALSE NEIGHBOUR: 'it returns false'. Refute it at one input. -/
def rootBackWrong : ChangeSpec := { name := "rootBack", fn := fun _ => fun
  | [d1, d2, d3] => { results := [.lit (.bool false)], args := [d1, d2, d3] }
  | _ => none }
def RootBackWrongFalsely : Prop := rootBackRow.holds Try.pinned (OpenSpec.ofChange rootBackWrong)

/-- 'scorialaw12.RootNewest': WHATEVER THE INPUT: true; the input reads as it did. -/
def rootNewestSpec : ChangeSpec := { name := "rootNewest", fn := fun _ => fun
  | [d1, d2, d3] => { results := [.lit (.bool true)], args := [d1, d2, d3] }
  | _ => none }
def rootNewestRow : OpenClaim := { program := "ytklniadgdbjcpaa", sum := "7e05d47c8286bbf6522eb38e1a2ab5c58a50d78108e0d2da5a34b6df12bc520e", func := "scoria/scorialaw12.RootNewest", spec := "rootNewest", inPlace := ["internal/abi.NoEscape"], unfollowed := true, recurses := true, apart := false }
def RootNewestSaid : Prop := rootNewestRow.holds Try.pinned (OpenSpec.ofChange rootNewestSpec)

/-- ITS FALSE NEIGHBOUR: 'it returns false'. Refute it at one input. -/
def rootNewestWrong : ChangeSpec := { name := "rootNewest", fn := fun _ => fun
  | [d1, d2, d3] => { results := [.lit (.bool false)], args := [d1, d2, d3] }
  | _ => none }
def RootNewestWrongFalsely : Prop := rootNewestRow.holds Try.pinned (OpenSpec.ofChange rootNewestWrong)

/- THE SECOND FORM. 'bulk': how many values and letters a reading holds, each counted each time it is reached (what is shared counts as often as it is met; a slice's spare places count too). A statement '..UptoSaid' is the law's where the arguments, and the package variables that the reading takes, are together of bulk at most 1048576: NARROWER than '..Said'. Prove '..Said' where nothing that the law and all that it calls make is longer than what came in: it says more and counts as full. Else prove '..UptoSaid'. A law counts once. -/
mutual
def uptoBulk {H : Type} : DataW H → Nat
  | .lit (.string bytes) => bytes.length + 1
  | .lit _ => 1
  | .nil => 1
  | .ptr d => uptoBulk d + 1
  | .slice elems spare => uptoBulkAll elems + uptoBulkAll spare + 1
  | .agg parts => uptoBulkAll parts + 1
  | .iface _ d => uptoBulk d + 1
  | .map entries => uptoBulkEntries entries + 1
  | .held _ => 1
def uptoBulkAll {H : Type} : List (DataW H) → Nat
  | [] => 0
  | d :: r => uptoBulk d + uptoBulkAll r
def uptoBulkEntries {H : Type} : List (Lit × DataW H) → Nat
  | [] => 0
  | x :: r => uptoBulkEntry x + uptoBulkEntries r
def uptoBulkEntry {H : Type} : Lit × DataW H → Nat
  | (.string bytes, d) => bytes.length + uptoBulk d + 1
  | (_, d) => uptoBulk d + 1
 end
def uptoSmall : (H : Type) → List (DataW H) → Bool := fun _ ds => decide (uptoBulkAll ds ≤ 1048576)
def OpenSpec.upto (s : _root_.Go.ChangeSpec) : _root_.Go.OpenSpec := { _root_.Go.OpenSpec.ofChange s with cond := some uptoSmall }

/-- 'scorialaw12.RootWrites', WHERE WHAT IT READS IS OF BULK AT MOST 1048576: true; the input reads as it did. -/
def rootWritesUptoRow : OpenClaim := { program := "ytklniadgdbjcpaa", sum := "7e05d47c8286bbf6522eb38e1a2ab5c58a50d78108e0d2da5a34b6df12bc520e", func := "scoria/scorialaw12.RootWrites", spec := "rootWrites", inPlace := ["internal/abi.NoEscape"], unfollowed := true, recurses := true, apart := false, narrowed := true }
def RootWritesUptoSaid : Prop := rootWritesUptoRow.holds Try.pinned (OpenSpec.upto rootWritesSpec)

/-- 'scorialaw12.RootApart', WHERE WHAT IT READS IS OF BULK AT MOST 1048576: true; the input reads as it did. -/
def rootApartUptoRow : OpenClaim := { program := "ytklniadgdbjcpaa", sum := "7e05d47c8286bbf6522eb38e1a2ab5c58a50d78108e0d2da5a34b6df12bc520e", func := "scoria/scorialaw12.RootApart", spec := "rootApart", inPlace := ["internal/abi.NoEscape"], unfollowed := true, recurses := true, apart := false, narrowed := true }
def RootApartUptoSaid : Prop := rootApartUptoRow.holds Try.pinned (OpenSpec.upto rootApartSpec)

/-- 'scorialaw12.RootFinds', WHERE WHAT IT READS IS OF BULK AT MOST 1048576: true; the input reads as it did. -/
def rootFindsUptoRow : OpenClaim := { program := "ytklniadgdbjcpaa", sum := "7e05d47c8286bbf6522eb38e1a2ab5c58a50d78108e0d2da5a34b6df12bc520e", func := "scoria/scorialaw12.RootFinds", spec := "rootFinds", inPlace := ["internal/abi.NoEscape"], unfollowed := true, recurses := true, apart := false, narrowed := true }
def RootFindsUptoSaid : Prop := rootFindsUptoRow.holds Try.pinned (OpenSpec.upto rootFindsSpec)

/-- 'scorialaw12.RootReads', WHERE WHAT IT READS IS OF BULK AT MOST 1048576: true; the input reads as it did. -/
def rootReadsUptoRow : OpenClaim := { program := "ytklniadgdbjcpaa", sum := "7e05d47c8286bbf6522eb38e1a2ab5c58a50d78108e0d2da5a34b6df12bc520e", func := "scoria/scorialaw12.RootReads", spec := "rootReads", inPlace := ["internal/abi.NoEscape"], unfollowed := true, recurses := true, apart := false, narrowed := true }
def RootReadsUptoSaid : Prop := rootReadsUptoRow.holds Try.pinned (OpenSpec.upto rootReadsSpec)

/-- 'scorialaw12.RootBack', WHERE WHAT IT READS IS OF BULK AT MOST 1048576: true; the input reads as it did. -/
def rootBackUptoRow : OpenClaim := { program := "ytklniadgdbjcpaa", sum := "7e05d47c8286bbf6522eb38e1a2ab5c58a50d78108e0d2da5a34b6df12bc520e", func := "scoria/scorialaw12.RootBack", spec := "rootBack", inPlace := ["internal/abi.NoEscape"], unfollowed := true, recurses := true, apart := false, narrowed := true }
def RootBackUptoSaid : Prop := rootBackUptoRow.holds Try.pinned (OpenSpec.upto rootBackSpec)

/-- 'scorialaw12.RootNewest', WHERE WHAT IT READS IS OF BULK AT MOST 1048576: true; the input reads as it did. -/
def rootNewestUptoRow : OpenClaim := { program := "ytklniadgdbjcpaa", sum := "7e05d47c8286bbf6522eb38e1a2ab5c58a50d78108e0d2da5a34b6df12bc520e", func := "scoria/scorialaw12.RootNewest", spec := "rootNewest", inPlace := ["internal/abi.NoEscape"], unfollowed := true, recurses := true, apart := false, narrowed := true }
def RootNewestUptoSaid : Prop := rootNewestUptoRow.holds Try.pinned (OpenSpec.upto rootNewestSpec)

end Rows
end Go.Proofs.Ytklniadgdbjcpaa
