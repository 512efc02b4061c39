/-
  No cell of these rows narrows 'for every input' (looked for: loops, veiled, ifaces, maps, wideKeys, modest, calm, conditions, laid).
  DERIVED. THE GIVEN ROWS OF THIS SEAT. 7 by the template 'for every input the law returns true; each argument reads behind the call as it read before'; 0 by the template 'total and deterministic' (their statements: YtddofkbkjllcbaaTotals.lean).
  GIVEN WITH THE SEED: the statements are not yours to turn. If you find one false, say at which input.
  Laid BY PROGRAM, IN A SANDBOX (cutbox-rows.mjs): the forced cells as the released guide's own fill.sh prints them over the translation 3f265f42c56c335a… (all of the seat's roots in one cut). By AI agents, Wed Nov 11 2026. No macro, syntax, notation, axiom, sorry.
-/
import Derived.Test.YtddofkbkjllcbaaChecked
import GoSem.Claim
import GoSem.ClaimJoined
import GoSem.ClaimMapViews
import Derived.JoinedTies
import Derived.KernelRfl
namespace Go.Proofs.Ytddofkbkjllcbaa
/- THE CELL 'sum', in the pinned program and in every row, IS THE sha256 OF THE DUMP (.gsa) THAT YtddofkbkjllcbaaProg.lean LOADS. Nothing in Lean hashes anything: it is a label: what it is worth is what the hold of that sum in a sandbox is worth. -/
noncomputable def Try.pinned : Pinned := { name := "ytddofkbkjllcbaa", sum := "3f265f42c56c335a65d170f8b41eb5e2d40733ceafc7ca264a8e66f58f57b4ee", checked := Try.checked }
namespace Rows
def none {H : Type} : Left H := { results := [], args := [] }

/-- 'scorialaw02.CheckSums': WHATEVER THE INPUT: true; the input reads as it did. -/
def checkSumsSpec : ChangeSpec := { name := "checkSums", fn := fun _ => fun
  | [d1, d2] => { results := [.lit (.bool true)], args := [d1, d2] }
  | _ => none }
def checkSumsRow : OpenClaim := { program := "ytddofkbkjllcbaa", sum := "3f265f42c56c335a65d170f8b41eb5e2d40733ceafc7ca264a8e66f58f57b4ee", func := "scoria/scorialaw02.CheckSums", spec := "checkSums", apart := false }
def CheckSumsSaid : Prop := checkSumsRow.holds Try.pinned (OpenSpec.ofChange checkSumsSpec)

/-- ITS FALSE NEIGHBOUR: 'it returns false'. Refute it at one input. -/
def checkSumsWrong : ChangeSpec := { name := "checkSums", fn := fun _ => fun
  | [d1, d2] => { results := [.lit (.bool false)], args := [d1, d2] }
  | _ => none }
def CheckSumsWrongFalsely : Prop := checkSumsRow.holds Try.pinned (OpenSpec.ofChange checkSumsWrong)

/-- 'scorialaw02.CheckSeals': WHATEVER THE INPUT: true; the input reads as it did. -/
def checkSealsSpec : ChangeSpec := { name := "checkSeals", fn := fun _ => fun
  | [d] => { results := [.lit (.bool true)], args := [d] }
  | _ => none }
def checkSealsRow : OpenClaim := { program := "ytddofkbkjllcbaa", sum := "3f265f42c56c335a65d170f8b41eb5e2d40733ceafc7ca264a8e66f58f57b4ee", func := "scoria/scorialaw02.CheckSeals", spec := "checkSeals", apart := false }
def CheckSealsSaid : Prop := checkSealsRow.holds Try.pinned (OpenSpec.ofChange checkSealsSpec)

/-- ITS FALSE NEIGHBOUR: 'it returns false'. Refute it at one input. -/
def checkSealsWrong : ChangeSpec := { name := "checkSeals", fn := fun _ => fun
  | [d] => { results := [.lit (.bool false)], args := [d] }
  | _ => none }
def CheckSealsWrongFalsely : Prop := checkSealsRow.holds Try.pinned (OpenSpec.ofChange checkSealsWrong)

/-- 'scorialaw02.CheckOpens': WHATEVER THE INPUT: true; the input reads as it did. -/
def checkOpensSpec : ChangeSpec := { name := "checkOpens", fn := fun _ => fun
  | [d] => { results := [.lit (.bool true)], args := [d] }
  | _ => none }
def checkOpensRow : OpenClaim := { program := "ytddofkbkjllcbaa", sum := "3f265f42c56c335a65d170f8b41eb5e2d40733ceafc7ca264a8e66f58f57b4ee", func := "scoria/scorialaw02.CheckOpens", spec := "checkOpens", apart := false }
def CheckOpensSaid : Prop := checkOpensRow.holds Try.pinned (OpenSpec.ofChange checkOpensSpec)

/-- ITS FALSE NEIGHBOUR: 'it returns false'. Refute it at one input. -/
def checkOpensWrong : ChangeSpec := { name := "checkOpens", fn := fun _ => fun
  | [d] => { results := [.lit (.bool false)], args := [d] }
  | _ => none }
def CheckOpensWrongFalsely : Prop := checkOpensRow.holds Try.pinned (OpenSpec.ofChange checkOpensWrong)

/-- 'scorialaw02.CheckBack': WHATEVER THE INPUT: true; the input reads as it did. -/
def checkBackSpec : ChangeSpec := { name := "checkBack", fn := fun _ => fun
  | [d] => { results := [.lit (.bool true)], args := [d] }
  | _ => none }
def checkBackRow : OpenClaim := { program := "ytddofkbkjllcbaa", sum := "3f265f42c56c335a65d170f8b41eb5e2d40733ceafc7ca264a8e66f58f57b4ee", func := "scoria/scorialaw02.CheckBack", spec := "checkBack", apart := false }
def CheckBackSaid : Prop := checkBackRow.holds Try.pinned (OpenSpec.ofChange checkBackSpec)

/-- ITS FALSE NEIGHBOUR: 'it returns false'. Refute it at one input. -/
def checkBackWrong : ChangeSpec := { name := "checkBack", fn := fun _ => fun
  | [d] => { results := [.lit (.bool false)], args := [d] }
  | _ => none }
def CheckBackWrongFalsely : Prop := checkBackRow.holds Try.pinned (OpenSpec.ofChange checkBackWrong)

/-- 'scorialaw02.CheckJoins': WHATEVER THE INPUT: true; the input reads as it did. -/
def checkJoinsSpec : ChangeSpec := { name := "checkJoins", fn := fun _ => fun
  | [d1, d2] => { results := [.lit (.bool true)], args := [d1, d2] }
  | _ => none }
def checkJoinsRow : OpenClaim := { program := "ytddofkbkjllcbaa", sum := "3f265f42c56c335a65d170f8b41eb5e2d40733ceafc7ca264a8e66f58f57b4ee", func := "scoria/scorialaw02.CheckJoins", spec := "checkJoins", apart := false }
def CheckJoinsSaid : Prop := checkJoinsRow.holds Try.pinned (OpenSpec.ofChange checkJoinsSpec)

/-- ITS FALSE NEIGHBOUR: 'it returns false'. Refute it at one input. -/
def checkJoinsWrong : ChangeSpec := { name := "checkJoins", fn := fun _ => fun
  | [d1, d2] => { results := [.lit (.bool false)], args := [d1, d2] }
  | _ => none }
def CheckJoinsWrongFalsely : Prop := checkJoinsRow.holds Try.pinned (OpenSpec.ofChange checkJoinsWrong)

/-- 'scorialaw02.CheckBurst': WHATEVER THE INPUT: true; the input reads as it did. -/
def checkBurstSpec : ChangeSpec := { name := "checkBurst", fn := fun _ => fun
  | [d1, d2, d3] => { results := [.lit (.bool true)], args := [d1, d2, d3] }
  | _ => none }
def checkBurstRow : OpenClaim := { program := "ytddofkbkjllcbaa", sum := "3f265f42c56c335a65d170f8b41eb5e2d40733ceafc7ca264a8e66f58f57b4ee", func := "scoria/scorialaw02.CheckBurst", spec := "checkBurst", apart := false }
def CheckBurstSaid : Prop := checkBurstRow.holds Try.pinned (OpenSpec.ofChange checkBurstSpec)

/-- ITS FALSE NEIGHBOUR: 'it returns false'. Refute it at one input. -/
def checkBurstWrong : ChangeSpec := { name := "checkBurst", fn := fun _ => fun
  | [d1, d2, d3] => { results := [.lit (.bool false)], args := [d1, d2, d3] }
  | _ => none }
def CheckBurstWrongFalsely : Prop := checkBurstRow.holds Try.pinned (OpenSpec.ofChange checkBurstWrong)

/-- 'scorialaw02.CheckMixes': WHATEVER THE INPUT: true; the input reads as it did. -/
def checkMixesSpec : ChangeSpec := { name := "checkMixes", fn := fun _ => fun
  | [d1, d2, d3] => { results := [.lit (.bool true)], args := [d1, d2, d3] }
  | _ => none }
def checkMixesRow : OpenClaim := { program := "ytddofkbkjllcbaa", sum := "3f265f42c56c335a65d170f8b41eb5e2d40733ceafc7ca264a8e66f58f57b4ee", func := "scoria/scorialaw02.CheckMixes", spec := "checkMixes", apart := false }
def CheckMixesSaid : Prop := checkMixesRow.holds Try.pinned (OpenSpec.ofChange checkMixesSpec)

/-- ITS FALSE NEIGHBOUR: 'it returns false'. Refute it at one input. -/
def checkMixesWrong : ChangeSpec := { name := "checkMixes", fn := fun _ => fun
  | [d1, d2, d3] => { results := [.lit (.bool false)], args := [d1, d2, d3] }
  | _ => none }
def CheckMixesWrongFalsely : Prop := checkMixesRow.holds Try.pinned (OpenSpec.ofChange checkMixesWrong)

/- THE SECOND FORM. 'bulk': how many values and letters a reading holds, each counted each time it is reached (what is shared counts as often as it is met; a slice's spare places count too). A statement '..UptoSaid' is the law's where the arguments, and the package variables that the reading takes, are together of bulk at most 1048576: NARROWER than '..Said'. Prove '..Said' where nothing that the law and all that it calls make is longer than what came in: it says more and counts as full. Else prove '..UptoSaid'. A law counts once. -/
mutual
def uptoBulk {H : Type} : DataW H → Nat
  | .lit (.string bytes) => bytes.length + 1
  | .lit _ => 1
  | .nil => 1
  | .ptr d => uptoBulk d + 1
  | .slice elems spare => uptoBulkAll elems + uptoBulkAll spare + 1
  | .agg parts => uptoBulkAll parts + 1
  | .iface _ d => uptoBulk d + 1
  | .map entries => uptoBulkEntries entries + 1
  | .held _ => 1
def uptoBulkAll {H : Type} : List (DataW H) → Nat
  | [] => 0
  | d :: r => uptoBulk d + uptoBulkAll r
def uptoBulkEntries {H : Type} : List (Lit × DataW H) → Nat
  | [] => 0
  | x :: r => uptoBulkEntry x + uptoBulkEntries r
def uptoBulkEntry {H : Type} : Lit × DataW H → Nat
  | (.string bytes, d) => bytes.length + uptoBulk d + 1
  | (_, d) => uptoBulk d + 1
 end
def uptoSmall : (H : Type) → List (DataW H) → Bool := fun _ ds => decide (uptoBulkAll ds ≤ 1048576)
def OpenSpec.upto (s : _root_.Go.ChangeSpec) : _root_.Go.OpenSpec := { _root_.Go.OpenSpec.ofChange s with cond := some uptoSmall }

/-- 'scorialaw02.CheckSums', WHERE WHAT IT READS IS OF BULK AT MOST 1048576: true; the input reads as it did. -/
def checkSumsUptoRow : OpenClaim := { program := "ytddofkbkjllcbaa", sum := "3f265f42c56c335a65d170f8b41eb5e2d40733ceafc7ca264a8e66f58f57b4ee", func := "scoria/scorialaw02.CheckSums", spec := "checkSums", apart := false, narrowed := true }
def CheckSumsUptoSaid : Prop := checkSumsUptoRow.holds Try.pinned (OpenSpec.upto checkSumsSpec)

/-- 'scorialaw02.CheckSeals', WHERE WHAT IT READS IS OF BULK AT MOST 1048576: true; the input reads as it did. -/
def checkSealsUptoRow : OpenClaim := { program := "ytddofkbkjllcbaa", sum := "3f265f42c56c335a65d170f8b41eb5e2d40733ceafc7ca264a8e66f58f57b4ee", func := "scoria/scorialaw02.CheckSeals", spec := "checkSeals", apart := false, narrowed := true }
def CheckSealsUptoSaid : Prop := checkSealsUptoRow.holds Try.pinned (OpenSpec.upto checkSealsSpec)

/-- 'scorialaw02.CheckOpens', WHERE WHAT IT READS IS OF BULK AT MOST 1048576: true; the input reads as it did. -/
def checkOpensUptoRow : OpenClaim := { program := "ytddofkbkjllcbaa", sum := "3f265f42c56c335a65d170f8b41eb5e2d40733ceafc7ca264a8e66f58f57b4ee", func := "scoria/scorialaw02.CheckOpens", spec := "checkOpens", apart := false, narrowed := true }
def CheckOpensUptoSaid : Prop := checkOpensUptoRow.holds Try.pinned (OpenSpec.upto checkOpensSpec)

/-- 'scorialaw02.CheckBack', WHERE WHAT IT READS IS OF BULK AT MOST 1048576: true; the input reads as it did. -/
def checkBackUptoRow : OpenClaim := { program := "ytddofkbkjllcbaa", sum := "3f265f42c56c335a65d170f8b41eb5e2d40733ceafc7ca264a8e66f58f57b4ee", func := "scoria/scorialaw02.CheckBack", spec := "checkBack", apart := false, narrowed := true }
def CheckBackUptoSaid : Prop := checkBackUptoRow.holds Try.pinned (OpenSpec.upto checkBackSpec)

/-- 'scorialaw02.CheckJoins', WHERE WHAT IT READS IS OF BULK AT MOST 1048576: true; the input reads as it did. -/
def checkJoinsUptoRow : OpenClaim := { program := "ytddofkbkjllcbaa", sum := "3f265f42c56c335a65d170f8b41eb5e2d40733ceafc7ca264a8e66f58f57b4ee", func := "scoria/scorialaw02.CheckJoins", spec := "checkJoins", apart := false, narrowed := true }
def CheckJoinsUptoSaid : Prop := checkJoinsUptoRow.holds Try.pinned (OpenSpec.upto checkJoinsSpec)

/-- 'scorialaw02.CheckBurst', WHERE WHAT IT READS IS OF BULK AT MOST 1048576: true; the input reads as it did. -/
def checkBurstUptoRow : OpenClaim := { program := "ytddofkbkjllcbaa", sum := "3f265f42c56c335a65d170f8b41eb5e2d40733ceafc7ca264a8e66f58f57b4ee", func := "scoria/scorialaw02.CheckBurst", spec := "checkBurst", apart := false, narrowed := true }
def CheckBurstUptoSaid : Prop := checkBurstUptoRow.holds Try.pinned (OpenSpec.upto checkBurstSpec)

/-- 'scorialaw02.CheckMixes', WHERE WHAT IT READS IS OF BULK AT MOST 1048576: true; the input reads as it did. -/
def checkMixesUptoRow : OpenClaim := { program := "ytddofkbkjllcbaa", sum := "3f265f42c56c335a65d170f8b41eb5e2d40733ceafc7ca264a8e66f58f57b4ee", func := "scoria/scorialaw02.CheckMixes", spec := "checkMixes", apart := false, narrowed := true }
def CheckMixesUptoSaid : Prop := checkMixesUptoRow.holds Try.pinned (OpenSpec.upto checkMixesSpec)

end Rows
end Go.Proofs.Ytddofkbkjllcbaa
