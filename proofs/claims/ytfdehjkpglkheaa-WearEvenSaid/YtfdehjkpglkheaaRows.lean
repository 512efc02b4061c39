/-
  No cell of these rows narrows 'for every input' (looked for: loops, veiled, ifaces, maps, wideKeys, modest, calm, conditions, laid).
  DERIVED. THE GIVEN ROWS OF THIS SEAT. 5 by the template 'for every input the law returns true; each argument reads behind the call as it read before'; 0 by the template 'total and deterministic' (their statements: YtfdehjkpglkheaaTotals.lean).
  GIVEN WITH THE SEED: the statements are not yours to turn. If you find one false, say at which input.
  Laid BY PROGRAM, IN A SANDBOX (cutbox-rows.mjs): the forced cells as the released guide's own fill.sh prints them over the translation faabf232c0ec28bc… (all of the seat's roots in one cut). By AI agents, Wed Nov 11 2026. No macro, syntax, notation, axiom, sorry.
-/
import Derived.Test.YtfdehjkpglkheaaChecked
import GoSem.Claim
import GoSem.ClaimJoined
import GoSem.ClaimMapViews
import Derived.JoinedTies
import Derived.KernelRfl
namespace Go.Proofs.Ytfdehjkpglkheaa
/- THE CELL 'sum', in the pinned program and in every row, IS THE sha256 OF THE DUMP (.gsa) THAT YtfdehjkpglkheaaProg.lean LOADS. Nothing in Lean hashes anything: it is a label: what it is worth is what the hold of that sum in a sandbox is worth. -/
noncomputable def Try.pinned : Pinned := { name := "ytfdehjkpglkheaa", sum := "faabf232c0ec28bca6b8a7db24e3e3fe9c110e67d84ee84074dae24ccaa46bdb", checked := Try.checked }
namespace Rows
def none {H : Type} : Left H := { results := [], args := [] }

/-- 'scorialaw08.WearVictims': WHATEVER THE INPUT: true; the input reads as it did. -/
def wearVictimsSpec : ChangeSpec := { name := "wearVictims", fn := fun _ => fun
  | [d] => { results := [.lit (.bool true)], args := [d] }
  | _ => none }
def wearVictimsRow : OpenClaim := { program := "ytfdehjkpglkheaa", sum := "faabf232c0ec28bca6b8a7db24e3e3fe9c110e67d84ee84074dae24ccaa46bdb", func := "scoria/scorialaw08.WearVictims", spec := "wearVictims", unfollowed := true, recurses := true, apart := false }
def WearVictimsSaid : Prop := wearVictimsRow.holds Try.pinned (OpenSpec.ofChange wearVictimsSpec)

/-- ITS FALSE NEIGHBOUR: 'it returns false'. Refute it at one input. -/
def wearVictimsWrong : ChangeSpec := { name := "wearVictims", fn := fun _ => fun
  | [d] => { results := [.lit (.bool false)], args := [d] }
  | _ => none }
def WearVictimsWrongFalsely : Prop := wearVictimsRow.holds Try.pinned (OpenSpec.ofChange wearVictimsWrong)

/-- 'scorialaw08.WearPicks': WHATEVER THE INPUT: true; the input reads as it did. -/
def wearPicksSpec : ChangeSpec := { name := "wearPicks", fn := fun _ => fun
  | [d1, d2] => { results := [.lit (.bool true)], args := [d1, d2] }
  | _ => none }
def wearPicksRow : OpenClaim := { program := "ytfdehjkpglkheaa", sum := "faabf232c0ec28bca6b8a7db24e3e3fe9c110e67d84ee84074dae24ccaa46bdb", func := "scoria/scorialaw08.WearPicks", spec := "wearPicks", unfollowed := true, recurses := true, apart := false }
def WearPicksSaid : Prop := wearPicksRow.holds Try.pinned (OpenSpec.ofChange wearPicksSpec)

/-- ITS FALSE NEIGHBOUR: 'it returns false'. Refute it at one input. -/
def wearPicksWrong : ChangeSpec := { name := "wearPicks", fn := fun _ => fun
  | [d1, d2] => { results := [.lit (.bool false)], args := [d1, d2] }
  | _ => none }
def WearPicksWrongFalsely : Prop := wearPicksRow.holds Try.pinned (OpenSpec.ofChange wearPicksWrong)

/-- 'scorialaw08.WearEven': WHATEVER THE INPUT: true; the input reads as it did. -/
def wearEvenSpec : ChangeSpec := { name := "wearEven", fn := fun _ => fun
  | [d1, d2, d3] => { results := [.lit (.bool true)], args := [d1, d2, d3] }
  | _ => none }
def wearEvenRow : OpenClaim := { program := "ytfdehjkpglkheaa", sum := "faabf232c0ec28bca6b8a7db24e3e3fe9c110e67d84ee84074dae24ccaa46bdb", func := "scoria/scorialaw08.WearEven", spec := "wearEven", unfollowed := true, recurses := true, apart := false }
def WearEvenSaid : Prop := wearEvenRow.holds Try.pinned (OpenSpec.ofChange wearEvenSpec)

/-- ITS FALSE NEIGHBOUR: 'it returns false'. Refute it at one input. -/
def wearEvenWrong : ChangeSpec := { name := "wearEven", fn := fun _ => fun
  | [d1, d2, d3] => { results := [.lit (.bool false)], args := [d1, d2, d3] }
  | _ => none }
def WearEvenWrongFalsely : Prop := wearEvenRow.holds Try.pinned (OpenSpec.ofChange wearEvenWrong)

/-- 'scorialaw08.WearLess': WHATEVER THE INPUT: true; the input reads as it did. -/
def wearLessSpec : ChangeSpec := { name := "wearLess", fn := fun _ => fun
  | [d1, d2] => { results := [.lit (.bool true)], args := [d1, d2] }
  | _ => none }
def wearLessRow : OpenClaim := { program := "ytfdehjkpglkheaa", sum := "faabf232c0ec28bca6b8a7db24e3e3fe9c110e67d84ee84074dae24ccaa46bdb", func := "scoria/scorialaw08.WearLess", spec := "wearLess", unfollowed := true, recurses := true, apart := false }
def WearLessSaid : Prop := wearLessRow.holds Try.pinned (OpenSpec.ofChange wearLessSpec)

/-- ITS FALSE NEIGHBOUR: 'it returns false'. Refute it at one input. -/
def wearLessWrong : ChangeSpec := { name := "wearLess", fn := fun _ => fun
  | [d1, d2] => { results := [.lit (.bool false)], args := [d1, d2] }
  | _ => none }
def WearLessWrongFalsely : Prop := wearLessRow.holds Try.pinned (OpenSpec.ofChange wearLessWrong)

/-- 'scorialaw08.WearColds': WHATEVER THE INPUT: true; the input reads as it did. -/
def wearColdsSpec : ChangeSpec := { name := "wearColds", fn := fun _ => fun
  | [d1, d2] => { results := [.lit (.bool true)], args := [d1, d2] }
  | _ => none }
def wearColdsRow : OpenClaim := { program := "ytfdehjkpglkheaa", sum := "faabf232c0ec28bca6b8a7db24e3e3fe9c110e67d84ee84074dae24ccaa46bdb", func := "scoria/scorialaw08.WearColds", spec := "wearColds", unfollowed := true, recurses := true, apart := false }
def WearColdsSaid : Prop := wearColdsRow.holds Try.pinned (OpenSpec.ofChange wearColdsSpec)

/-- ITS FALSE NEIGHBOUR: 'it returns false'. Refute it at one input. -/
def wearColdsWrong : ChangeSpec := { name := "wearColds", fn := fun _ => fun
  | [d1, d2] => { results := [.lit (.bool false)], args := [d1, d2] }
  | _ => none }
def WearColdsWrongFalsely : Prop := wearColdsRow.holds Try.pinned (OpenSpec.ofChange wearColdsWrong)

/- THE SECOND FORM. 'bulk': how many values and letters a reading holds, each counted each time it is reached (what is shared counts as often as it is met; a slice's spare places count too). A statement '..UptoSaid' is the law's where the arguments, and the package variables that the reading takes, are together of bulk at most 1048576: NARROWER than '..Said'. Prove '..Said' where nothing that the law and all that it calls make is longer than what came in: it says more and counts as full. Else prove '..UptoSaid'. A law counts once. -/
mutual
def uptoBulk {H : Type} : DataW H → Nat
  | .lit (.string bytes) => bytes.length + 1
  | .lit _ => 1
  | .nil => 1
  | .ptr d => uptoBulk d + 1
  | .slice elems spare => uptoBulkAll elems + uptoBulkAll spare + 1
  | .agg parts => uptoBulkAll parts + 1
  | .iface _ d => uptoBulk d + 1
  | .map entries => uptoBulkEntries entries + 1
  | .held _ => 1
def uptoBulkAll {H : Type} : List (DataW H) → Nat
  | [] => 0
  | d :: r => uptoBulk d + uptoBulkAll r
def uptoBulkEntries {H : Type} : List (Lit × DataW H) → Nat
  | [] => 0
  | x :: r => uptoBulkEntry x + uptoBulkEntries r
def uptoBulkEntry {H : Type} : Lit × DataW H → Nat
  | (.string bytes, d) => bytes.length + uptoBulk d + 1
  | (_, d) => uptoBulk d + 1
 end
def uptoSmall : (H : Type) → List (DataW H) → Bool := fun _ ds => decide (uptoBulkAll ds ≤ 1048576)
def OpenSpec.upto (s : _root_.Go.ChangeSpec) : _root_.Go.OpenSpec := { _root_.Go.OpenSpec.ofChange s with cond := some uptoSmall }

/-- 'scorialaw08.WearVictims', WHERE WHAT IT READS IS OF BULK AT MOST 1048576: true; the input reads as it did. -/
def wearVictimsUptoRow : OpenClaim := { program := "ytfdehjkpglkheaa", sum := "faabf232c0ec28bca6b8a7db24e3e3fe9c110e67d84ee84074dae24ccaa46bdb", func := "scoria/scorialaw08.WearVictims", spec := "wearVictims", unfollowed := true, recurses := true, apart := false, narrowed := true }
def WearVictimsUptoSaid : Prop := wearVictimsUptoRow.holds Try.pinned (OpenSpec.upto wearVictimsSpec)

/-- 'scorialaw08.WearPicks', WHERE WHAT IT READS IS OF BULK AT MOST 1048576: true; the input reads as it did. -/
def wearPicksUptoRow : OpenClaim := { program := "ytfdehjkpglkheaa", sum := "faabf232c0ec28bca6b8a7db24e3e3fe9c110e67d84ee84074dae24ccaa46bdb", func := "scoria/scorialaw08.WearPicks", spec := "wearPicks", unfollowed := true, recurses := true, apart := false, narrowed := true }
def WearPicksUptoSaid : Prop := wearPicksUptoRow.holds Try.pinned (OpenSpec.upto wearPicksSpec)

/-- 'scorialaw08.WearEven', WHERE WHAT IT READS IS OF BULK AT MOST 1048576: true; the input reads as it did. -/
def wearEvenUptoRow : OpenClaim := { program := "ytfdehjkpglkheaa", sum := "faabf232c0ec28bca6b8a7db24e3e3fe9c110e67d84ee84074dae24ccaa46bdb", func := "scoria/scorialaw08.WearEven", spec := "wearEven", unfollowed := true, recurses := true, apart := false, narrowed := true }
def WearEvenUptoSaid : Prop := wearEvenUptoRow.holds Try.pinned (OpenSpec.upto wearEvenSpec)

/-- 'scorialaw08.WearLess', WHERE WHAT IT READS IS OF BULK AT MOST 1048576: true; the input reads as it did. -/
def wearLessUptoRow : OpenClaim := { program := "ytfdehjkpglkheaa", sum := "faabf232c0ec28bca6b8a7db24e3e3fe9c110e67d84ee84074dae24ccaa46bdb", func := "scoria/scorialaw08.WearLess", spec := "wearLess", unfollowed := true, recurses := true, apart := false, narrowed := true }
def WearLessUptoSaid : Prop := wearLessUptoRow.holds Try.pinned (OpenSpec.upto wearLessSpec)

/-- 'scorialaw08.WearColds', WHERE WHAT IT READS IS OF BULK AT MOST 1048576: true; the input reads as it did. -/
def wearColdsUptoRow : OpenClaim := { program := "ytfdehjkpglkheaa", sum := "faabf232c0ec28bca6b8a7db24e3e3fe9c110e67d84ee84074dae24ccaa46bdb", func := "scoria/scorialaw08.WearColds", spec := "wearColds", unfollowed := true, recurses := true, apart := false, narrowed := true }
def WearColdsUptoSaid : Prop := wearColdsUptoRow.holds Try.pinned (OpenSpec.upto wearColdsSpec)

end Rows
end Go.Proofs.Ytfdehjkpglkheaa
