/-
  DERIVED. GIVEN WITH THE SEED: THE CARDS: each row of YtdgpiobmncohjaaGreatDoorRows.lean that lists a variable, with what it lists TIED to the program's text (the seventh form; the later family's looks); each row that meets fmt, with fmt's text TOLD by the authors' own Lean function (tested against real Go, not proved from fmt's source: count such statements apart). THE CARD IS WHAT COUNTS. Prove the row's statement (the work); the ties are given (YtdgpiobmncohjaaGreatDoorTie.lean); close each card by the builder's one call (the guide's Derived/Test/ToyasCard.lean, 'card_holds'). Laid BY PROGRAM, IN A SANDBOX (cutbox-door.mjs). By AI agents, Wed Nov 11 2026. No macro, syntax, notation, axiom, sorry.
-/
import Derived.Test.YtdgpiobmncohjaaGreatDoorRows
import GoSem.ClaimSeven
namespace Go.Proofs.YtdgpiobmncohjaaGreatDoor
namespace Rows

/-- THE TIED CARD OF 'scoriatop.TopNewest'. -/
def topNewestCard : Claim7 := { stood := { row := topNewestRow, standIns := [], harness := (true, "c864fa5583b8247b40a8fc8f83935b22a8e70f52714a2314241754ac07a3f76a"), looks := true }, kinds := [], alts := [], laidByText := true, laidKinds := [.handle], laidTests := true, laidLooks := .later }
def TopNewestCardSaid : Prop := Claim7.holds Tryz.pinned (.plain (OpenSpec.ofChange topNewestSpec)) topNewestCard

/-- THE TIED CARD OF 'scoriatop.TopKept'. -/
def topKeptCard : Claim7 := { stood := { row := topKeptRow, standIns := [], harness := (true, "c864fa5583b8247b40a8fc8f83935b22a8e70f52714a2314241754ac07a3f76a"), looks := true }, kinds := [], alts := [], laidByText := true, laidKinds := [.handle], laidTests := true, laidLooks := .later }
def TopKeptCardSaid : Prop := Claim7.holds Tryz.pinned (.plain (OpenSpec.ofChange topKeptSpec)) topKeptCard

/-- THE SECOND FORM's CARD OF 'scoriatop.TopNewest'. -/
def topNewestUptoCard : Claim7 := { stood := { row := topNewestUptoRow, standIns := [], harness := (true, "c864fa5583b8247b40a8fc8f83935b22a8e70f52714a2314241754ac07a3f76a"), looks := true }, kinds := [], alts := [], laidByText := true, laidKinds := [.handle], laidTests := true, laidLooks := .later }
def TopNewestUptoCardSaid : Prop := Claim7.holds Tryz.pinned (.plain (OpenSpec.upto topNewestSpec)) topNewestUptoCard

/-- THE SECOND FORM's CARD OF 'scoriatop.TopKept'. -/
def topKeptUptoCard : Claim7 := { stood := { row := topKeptUptoRow, standIns := [], harness := (true, "c864fa5583b8247b40a8fc8f83935b22a8e70f52714a2314241754ac07a3f76a"), looks := true }, kinds := [], alts := [], laidByText := true, laidKinds := [.handle], laidTests := true, laidLooks := .later }
def TopKeptUptoCardSaid : Prop := Claim7.holds Tryz.pinned (.plain (OpenSpec.upto topKeptSpec)) topKeptUptoCard
end Rows
end Go.Proofs.YtdgpiobmncohjaaGreatDoor
