/-
  No cell of these rows narrows 'for every input' (looked for: loops, veiled, ifaces, maps, wideKeys, modest, calm, conditions, laid).
  DERIVED. THE GIVEN ROWS OF THIS SEAT. 9 by the template 'for every input the law returns true; each argument reads behind the call as it read before'; 0 by the template 'total and deterministic' (their statements: YtamaonfdonfkaaaTotals.lean).
  GIVEN WITH THE SEED: the statements are not yours to turn. If you find one false, say at which input.
  Laid BY PROGRAM, IN A SANDBOX (cutbox-rows.mjs): the forced cells as the released guide's own fill.sh prints them over the translation 5ea7e8d948828372… (all of the seat's roots in one cut). By AI agents, Wed Nov 11 2026. No macro, syntax, notation, axiom, sorry.
-/
import Derived.Test.YtamaonfdonfkaaaChecked
import GoSem.Claim
import GoSem.ClaimJoined
import GoSem.ClaimMapViews
import Derived.JoinedTies
import Derived.KernelRfl
namespace Go.Proofs.Ytamaonfdonfkaaa
/- THE CELL 'sum', in the pinned program and in every row, IS THE sha256 OF THE DUMP (.gsa) THAT YtamaonfdonfkaaaProg.lean LOADS. Nothing in Lean hashes anything: it is a label: what it is worth is what the hold of that sum in a sandbox is worth. -/
noncomputable def Try.pinned : Pinned := { name := "ytamaonfdonfkaaa", sum := "5ea7e8d9488283727197426ce9a22489bb6e10e869b6880f854bd679b3723831", checked := Try.checked }
namespace Rows
def none {H : Type} : Left H := { results := [], args := [] }

/-- 'scorialaw01.FieldPuts': WHATEVER THE INPUT: true; the input reads as it did. -/
def fieldPutsSpec : ChangeSpec := { name := "fieldPuts", fn := fun _ => fun
  | [d1, d2] => { results := [.lit (.bool true)], args := [d1, d2] }
  | _ => none }
def fieldPutsRow : OpenClaim := { program := "ytamaonfdonfkaaa", sum := "5ea7e8d9488283727197426ce9a22489bb6e10e869b6880f854bd679b3723831", func := "scoria/scorialaw01.FieldPuts", spec := "fieldPuts", apart := false }
def FieldPutsSaid : Prop := fieldPutsRow.holds Try.pinned (OpenSpec.ofChange fieldPutsSpec)

/-- ITS FALSE NEIGHBOUR: 'it returns false'. Refute it at one input. -/
def fieldPutsWrong : ChangeSpec := { name := "fieldPuts", fn := fun _ => fun
  | [d1, d2] => { results := [.lit (.bool false)], args := [d1, d2] }
  | _ => none }
def FieldPutsWrongFalsely : Prop := fieldPutsRow.holds Try.pinned (OpenSpec.ofChange fieldPutsWrong)

/-- 'scorialaw01.FieldGets': WHATEVER THE INPUT: true; the input reads as it did. -/
def fieldGetsSpec : ChangeSpec := { name := "fieldGets", fn := fun _ => fun
  | [d1, d2, d3] => { results := [.lit (.bool true)], args := [d1, d2, d3] }
  | _ => none }
def fieldGetsRow : OpenClaim := { program := "ytamaonfdonfkaaa", sum := "5ea7e8d9488283727197426ce9a22489bb6e10e869b6880f854bd679b3723831", func := "scoria/scorialaw01.FieldGets", spec := "fieldGets", apart := false }
def FieldGetsSaid : Prop := fieldGetsRow.holds Try.pinned (OpenSpec.ofChange fieldGetsSpec)

/-- ITS FALSE NEIGHBOUR: 'it returns false'. Refute it at one input. -/
def fieldGetsWrong : ChangeSpec := { name := "fieldGets", fn := fun _ => fun
  | [d1, d2, d3] => { results := [.lit (.bool false)], args := [d1, d2, d3] }
  | _ => none }
def FieldGetsWrongFalsely : Prop := fieldGetsRow.holds Try.pinned (OpenSpec.ofChange fieldGetsWrong)

/-- 'scorialaw01.FieldBack': WHATEVER THE INPUT: true; the input reads as it did. -/
def fieldBackSpec : ChangeSpec := { name := "fieldBack", fn := fun _ => fun
  | [d1, d2, d3] => { results := [.lit (.bool true)], args := [d1, d2, d3] }
  | _ => none }
def fieldBackRow : OpenClaim := { program := "ytamaonfdonfkaaa", sum := "5ea7e8d9488283727197426ce9a22489bb6e10e869b6880f854bd679b3723831", func := "scoria/scorialaw01.FieldBack", spec := "fieldBack", apart := false }
def FieldBackSaid : Prop := fieldBackRow.holds Try.pinned (OpenSpec.ofChange fieldBackSpec)

/-- ITS FALSE NEIGHBOUR: 'it returns false'. Refute it at one input. -/
def fieldBackWrong : ChangeSpec := { name := "fieldBack", fn := fun _ => fun
  | [d1, d2, d3] => { results := [.lit (.bool false)], args := [d1, d2, d3] }
  | _ => none }
def FieldBackWrongFalsely : Prop := fieldBackRow.holds Try.pinned (OpenSpec.ofChange fieldBackWrong)

/-- 'scorialaw01.FieldRises': WHATEVER THE INPUT: true; the input reads as it did. -/
def fieldRisesSpec : ChangeSpec := { name := "fieldRises", fn := fun _ => fun
  | [d1, d2, d3] => { results := [.lit (.bool true)], args := [d1, d2, d3] }
  | _ => none }
def fieldRisesRow : OpenClaim := { program := "ytamaonfdonfkaaa", sum := "5ea7e8d9488283727197426ce9a22489bb6e10e869b6880f854bd679b3723831", func := "scoria/scorialaw01.FieldRises", spec := "fieldRises", apart := false }
def FieldRisesSaid : Prop := fieldRisesRow.holds Try.pinned (OpenSpec.ofChange fieldRisesSpec)

/-- ITS FALSE NEIGHBOUR: 'it returns false'. Refute it at one input. -/
def fieldRisesWrong : ChangeSpec := { name := "fieldRises", fn := fun _ => fun
  | [d1, d2, d3] => { results := [.lit (.bool false)], args := [d1, d2, d3] }
  | _ => none }
def FieldRisesWrongFalsely : Prop := fieldRisesRow.holds Try.pinned (OpenSpec.ofChange fieldRisesWrong)

/-- 'scorialaw01.FieldTakes': WHATEVER THE INPUT: true; the input reads as it did. -/
def fieldTakesSpec : ChangeSpec := { name := "fieldTakes", fn := fun _ => fun
  | [d1, d2] => { results := [.lit (.bool true)], args := [d1, d2] }
  | _ => none }
def fieldTakesRow : OpenClaim := { program := "ytamaonfdonfkaaa", sum := "5ea7e8d9488283727197426ce9a22489bb6e10e869b6880f854bd679b3723831", func := "scoria/scorialaw01.FieldTakes", spec := "fieldTakes", unfollowed := true, recurses := true, apart := false }
def FieldTakesSaid : Prop := fieldTakesRow.holds Try.pinned (OpenSpec.ofChange fieldTakesSpec)

/-- ITS FALSE NEIGHBOUR: 'it returns false'. Refute it at one input. -/
def fieldTakesWrong : ChangeSpec := { name := "fieldTakes", fn := fun _ => fun
  | [d1, d2] => { results := [.lit (.bool false)], args := [d1, d2] }
  | _ => none }
def FieldTakesWrongFalsely : Prop := fieldTakesRow.holds Try.pinned (OpenSpec.ofChange fieldTakesWrong)

/-- 'scorialaw01.FieldSplits': WHATEVER THE INPUT: true; the input reads as it did. -/
def fieldSplitsSpec : ChangeSpec := { name := "fieldSplits", fn := fun _ => fun
  | [d1, d2, d3] => { results := [.lit (.bool true)], args := [d1, d2, d3] }
  | _ => none }
def fieldSplitsRow : OpenClaim := { program := "ytamaonfdonfkaaa", sum := "5ea7e8d9488283727197426ce9a22489bb6e10e869b6880f854bd679b3723831", func := "scoria/scorialaw01.FieldSplits", spec := "fieldSplits", unfollowed := true, recurses := true, apart := false }
def FieldSplitsSaid : Prop := fieldSplitsRow.holds Try.pinned (OpenSpec.ofChange fieldSplitsSpec)

/-- ITS FALSE NEIGHBOUR: 'it returns false'. Refute it at one input. -/
def fieldSplitsWrong : ChangeSpec := { name := "fieldSplits", fn := fun _ => fun
  | [d1, d2, d3] => { results := [.lit (.bool false)], args := [d1, d2, d3] }
  | _ => none }
def FieldSplitsWrongFalsely : Prop := fieldSplitsRow.holds Try.pinned (OpenSpec.ofChange fieldSplitsWrong)

/-- 'scorialaw01.FieldRows': WHATEVER THE INPUT: true; the input reads as it did. -/
def fieldRowsSpec : ChangeSpec := { name := "fieldRows", fn := fun _ => fun
  | [d1, d2] => { results := [.lit (.bool true)], args := [d1, d2] }
  | _ => none }
def fieldRowsRow : OpenClaim := { program := "ytamaonfdonfkaaa", sum := "5ea7e8d9488283727197426ce9a22489bb6e10e869b6880f854bd679b3723831", func := "scoria/scorialaw01.FieldRows", spec := "fieldRows", inPlace := ["internal/abi.NoEscape"], unfollowed := true, recurses := true, apart := false }
def FieldRowsSaid : Prop := fieldRowsRow.holds Try.pinned (OpenSpec.ofChange fieldRowsSpec)

/-- ITS FALSE NEIGHBOUR: 'it returns false'. Refute it at one input. -/
def fieldRowsWrong : ChangeSpec := { name := "fieldRows", fn := fun _ => fun
  | [d1, d2] => { results := [.lit (.bool false)], args := [d1, d2] }
  | _ => none }
def FieldRowsWrongFalsely : Prop := fieldRowsRow.holds Try.pinned (OpenSpec.ofChange fieldRowsWrong)

/-- 'scorialaw01.FieldOne': WHATEVER THE INPUT: true; the input reads as it did. -/
def fieldOneSpec : ChangeSpec := { name := "fieldOne", fn := fun _ => fun
  | [d1, d2] => { results := [.lit (.bool true)], args := [d1, d2] }
  | _ => none }
def fieldOneRow : OpenClaim := { program := "ytamaonfdonfkaaa", sum := "5ea7e8d9488283727197426ce9a22489bb6e10e869b6880f854bd679b3723831", func := "scoria/scorialaw01.FieldOne", spec := "fieldOne", inPlace := ["internal/abi.NoEscape"], unfollowed := true, recurses := true, apart := false }
def FieldOneSaid : Prop := fieldOneRow.holds Try.pinned (OpenSpec.ofChange fieldOneSpec)

/-- ITS FALSE NEIGHBOUR: 'it returns false'. Refute it at one input. -/
def fieldOneWrong : ChangeSpec := { name := "fieldOne", fn := fun _ => fun
  | [d1, d2] => { results := [.lit (.bool false)], args := [d1, d2] }
  | _ => none }
def FieldOneWrongFalsely : Prop := fieldOneRow.holds Try.pinned (OpenSpec.ofChange fieldOneWrong)

/-- 'scorialaw01.FieldFills': WHATEVER THE INPUT: true; the input reads as it did. -/
def fieldFillsSpec : ChangeSpec := { name := "fieldFills", fn := fun _ => fun
  | [d1, d2, d3] => { results := [.lit (.bool true)], args := [d1, d2, d3] }
  | _ => none }
def fieldFillsRow : OpenClaim := { program := "ytamaonfdonfkaaa", sum := "5ea7e8d9488283727197426ce9a22489bb6e10e869b6880f854bd679b3723831", func := "scoria/scorialaw01.FieldFills", spec := "fieldFills", inPlace := ["internal/abi.NoEscape", "internal/bytealg.MakeNoZero"], apart := false }
def FieldFillsSaid : Prop := fieldFillsRow.holds Try.pinned (OpenSpec.ofChange fieldFillsSpec)

/-- ITS FALSE NEIGHBOUR: 'it returns false'. Refute it at one input. -/
def fieldFillsWrong : ChangeSpec := { name := "fieldFills", fn := fun _ => fun
  | [d1, d2, d3] => { results := [.lit (.bool false)], args := [d1, d2, d3] }
  | _ => none }
def FieldFillsWrongFalsely : Prop := fieldFillsRow.holds Try.pinned (OpenSpec.ofChange fieldFillsWrong)

/- THE SECOND FORM. 'bulk': how many values and letters a reading holds, each counted each time it is reached (what is shared counts as often as it is met; a slice's spare places count too). A statement '..UptoSaid' is the law's where the arguments, and the package variables that the reading takes, are together of bulk at most 1048576: NARROWER than '..Said'. Prove '..Said' where nothing that the law and all that it calls make is longer than what came in: it says more and counts as full. Else prove '..UptoSaid'. A law counts once. -/
mutual
def uptoBulk {H : Type} : DataW H → Nat
  | .lit (.string bytes) => bytes.length + 1
  | .lit _ => 1
  | .nil => 1
  | .ptr d => uptoBulk d + 1
  | .slice elems spare => uptoBulkAll elems + uptoBulkAll spare + 1
  | .agg parts => uptoBulkAll parts + 1
  | .iface _ d => uptoBulk d + 1
  | .map entries => uptoBulkEntries entries + 1
  | .held _ => 1
def uptoBulkAll {H : Type} : List (DataW H) → Nat
  | [] => 0
  | d :: r => uptoBulk d + uptoBulkAll r
def uptoBulkEntries {H : Type} : List (Lit × DataW H) → Nat
  | [] => 0
  | x :: r => uptoBulkEntry x + uptoBulkEntries r
def uptoBulkEntry {H : Type} : Lit × DataW H → Nat
  | (.string bytes, d) => bytes.length + uptoBulk d + 1
  | (_, d) => uptoBulk d + 1
 end
def uptoSmall : (H : Type) → List (DataW H) → Bool := fun _ ds => decide (uptoBulkAll ds ≤ 1048576)
def OpenSpec.upto (s : _root_.Go.ChangeSpec) : _root_.Go.OpenSpec := { _root_.Go.OpenSpec.ofChange s with cond := some uptoSmall }

/-- 'scorialaw01.FieldPuts', WHERE WHAT IT READS IS OF BULK AT MOST 1048576: true; the input reads as it did. -/
def fieldPutsUptoRow : OpenClaim := { program := "ytamaonfdonfkaaa", sum := "5ea7e8d9488283727197426ce9a22489bb6e10e869b6880f854bd679b3723831", func := "scoria/scorialaw01.FieldPuts", spec := "fieldPuts", apart := false, narrowed := true }
def FieldPutsUptoSaid : Prop := fieldPutsUptoRow.holds Try.pinned (OpenSpec.upto fieldPutsSpec)

/-- 'scorialaw01.FieldGets', WHERE WHAT IT READS IS OF BULK AT MOST 1048576: true; the input reads as it did. -/
def fieldGetsUptoRow : OpenClaim := { program := "ytamaonfdonfkaaa", sum := "5ea7e8d9488283727197426ce9a22489bb6e10e869b6880f854bd679b3723831", func := "scoria/scorialaw01.FieldGets", spec := "fieldGets", apart := false, narrowed := true }
def FieldGetsUptoSaid : Prop := fieldGetsUptoRow.holds Try.pinned (OpenSpec.upto fieldGetsSpec)

/-- 'scorialaw01.FieldBack', WHERE WHAT IT READS IS OF BULK AT MOST 1048576: true; the input reads as it did. -/
def fieldBackUptoRow : OpenClaim := { program := "ytamaonfdonfkaaa", sum := "5ea7e8d9488283727197426ce9a22489bb6e10e869b6880f854bd679b3723831", func := "scoria/scorialaw01.FieldBack", spec := "fieldBack", apart := false, narrowed := true }
def FieldBackUptoSaid : Prop := fieldBackUptoRow.holds Try.pinned (OpenSpec.upto fieldBackSpec)

/-- 'scorialaw01.FieldRises', WHERE WHAT IT READS IS OF BULK AT MOST 1048576: true; the input reads as it did. -/
def fieldRisesUptoRow : OpenClaim := { program := "ytamaonfdonfkaaa", sum := "5ea7e8d9488283727197426ce9a22489bb6e10e869b6880f854bd679b3723831", func := "scoria/scorialaw01.FieldRises", spec := "fieldRises", apart := false, narrowed := true }
def FieldRisesUptoSaid : Prop := fieldRisesUptoRow.holds Try.pinned (OpenSpec.upto fieldRisesSpec)

/-- 'scorialaw01.FieldTakes', WHERE WHAT IT READS IS OF BULK AT MOST 1048576: true; the input reads as it did. -/
def fieldTakesUptoRow : OpenClaim := { program := "ytamaonfdonfkaaa", sum := "5ea7e8d9488283727197426ce9a22489bb6e10e869b6880f854bd679b3723831", func := "scoria/scorialaw01.FieldTakes", spec := "fieldTakes", unfollowed := true, recurses := true, apart := false, narrowed := true }
def FieldTakesUptoSaid : Prop := fieldTakesUptoRow.holds Try.pinned (OpenSpec.upto fieldTakesSpec)

/-- 'scorialaw01.FieldSplits', WHERE WHAT IT READS IS OF BULK AT MOST 1048576: true; the input reads as it did. -/
def fieldSplitsUptoRow : OpenClaim := { program := "ytamaonfdonfkaaa", sum := "5ea7e8d9488283727197426ce9a22489bb6e10e869b6880f854bd679b3723831", func := "scoria/scorialaw01.FieldSplits", spec := "fieldSplits", unfollowed := true, recurses := true, apart := false, narrowed := true }
def FieldSplitsUptoSaid : Prop := fieldSplitsUptoRow.holds Try.pinned (OpenSpec.upto fieldSplitsSpec)

/-- 'scorialaw01.FieldRows', WHERE WHAT IT READS IS OF BULK AT MOST 1048576: true; the input reads as it did. -/
def fieldRowsUptoRow : OpenClaim := { program := "ytamaonfdonfkaaa", sum := "5ea7e8d9488283727197426ce9a22489bb6e10e869b6880f854bd679b3723831", func := "scoria/scorialaw01.FieldRows", spec := "fieldRows", inPlace := ["internal/abi.NoEscape"], unfollowed := true, recurses := true, apart := false, narrowed := true }
def FieldRowsUptoSaid : Prop := fieldRowsUptoRow.holds Try.pinned (OpenSpec.upto fieldRowsSpec)

/-- 'scorialaw01.FieldOne', WHERE WHAT IT READS IS OF BULK AT MOST 1048576: true; the input reads as it did. -/
def fieldOneUptoRow : OpenClaim := { program := "ytamaonfdonfkaaa", sum := "5ea7e8d9488283727197426ce9a22489bb6e10e869b6880f854bd679b3723831", func := "scoria/scorialaw01.FieldOne", spec := "fieldOne", inPlace := ["internal/abi.NoEscape"], unfollowed := true, recurses := true, apart := false, narrowed := true }
def FieldOneUptoSaid : Prop := fieldOneUptoRow.holds Try.pinned (OpenSpec.upto fieldOneSpec)

/-- 'scorialaw01.FieldFills', WHERE WHAT IT READS IS OF BULK AT MOST 1048576: true; the input reads as it did. -/
def fieldFillsUptoRow : OpenClaim := { program := "ytamaonfdonfkaaa", sum := "5ea7e8d9488283727197426ce9a22489bb6e10e869b6880f854bd679b3723831", func := "scoria/scorialaw01.FieldFills", spec := "fieldFills", inPlace := ["internal/abi.NoEscape", "internal/bytealg.MakeNoZero"], apart := false, narrowed := true }
def FieldFillsUptoSaid : Prop := fieldFillsUptoRow.holds Try.pinned (OpenSpec.upto fieldFillsSpec)

end Rows
end Go.Proofs.Ytamaonfdonfkaaa
