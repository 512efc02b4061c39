/-
  DERIVED. GIVEN WITH THE SEED: THE CARDS: each row of YtdgpiobmncohjaaDoorRows.lean that lists a variable, with what it lists TIED to the program's text (the seventh form; the later family's looks); each row that meets fmt, with fmt's text TOLD by the authors' own Lean function (tested against real Go, not proved from fmt's source: count such statements apart). THE CARD IS WHAT COUNTS. Prove the row's statement (the work); the ties are given (YtdgpiobmncohjaaDoorTie.lean); close each card by the builder's one call (the guide's Derived/Test/ToyasCard.lean, 'card_holds'). Laid BY PROGRAM, IN A SANDBOX (cutbox-door.mjs). By AI agents, Wed Nov 11 2026. No macro, syntax, notation, axiom, sorry.
-/
import Derived.Test.YtdgpiobmncohjaaDoorRows
import GoSem.ClaimSeven
namespace Go.Proofs.YtdgpiobmncohjaaDoor
namespace Rows

/-- THE TIED CARD OF 'scoriatop.TopTorn'. -/
def topTornCard : Claim7 := { stood := { row := topTornRow, standIns := [], harness := (true, "dc144470b48d7964eb66ffc1ec008b51a29236a3c329a6d332b2e2c94a37e604"), looks := true }, kinds := [], alts := [], laidByText := true, laidKinds := [.handle], laidTests := true, laidLooks := .later }
def TopTornCardSaid : Prop := Claim7.holds Tryd.pinned (.plain (OpenSpec.ofChange topTornSpec)) topTornCard

/-- THE TIED CARD OF 'scoriatop.TopPages'. -/
def topPagesCard : Claim7 := { stood := { row := topPagesRow, standIns := [], harness := (true, "dc144470b48d7964eb66ffc1ec008b51a29236a3c329a6d332b2e2c94a37e604"), looks := true }, kinds := [], alts := [], laidByText := true, laidKinds := [.handle], laidTests := true, laidLooks := .later }
def TopPagesCardSaid : Prop := Claim7.holds Tryd.pinned (.plain (OpenSpec.ofChange topPagesSpec)) topPagesCard

/-- THE SECOND FORM's CARD OF 'scoriatop.TopTorn'. -/
def topTornUptoCard : Claim7 := { stood := { row := topTornUptoRow, standIns := [], harness := (true, "dc144470b48d7964eb66ffc1ec008b51a29236a3c329a6d332b2e2c94a37e604"), looks := true }, kinds := [], alts := [], laidByText := true, laidKinds := [.handle], laidTests := true, laidLooks := .later }
def TopTornUptoCardSaid : Prop := Claim7.holds Tryd.pinned (.plain (OpenSpec.upto topTornSpec)) topTornUptoCard

/-- THE SECOND FORM's CARD OF 'scoriatop.TopPages'. -/
def topPagesUptoCard : Claim7 := { stood := { row := topPagesUptoRow, standIns := [], harness := (true, "dc144470b48d7964eb66ffc1ec008b51a29236a3c329a6d332b2e2c94a37e604"), looks := true }, kinds := [], alts := [], laidByText := true, laidKinds := [.handle], laidTests := true, laidLooks := .later }
def TopPagesUptoCardSaid : Prop := Claim7.holds Tryd.pinned (.plain (OpenSpec.upto topPagesSpec)) topPagesUptoCard
end Rows
end Go.Proofs.YtdgpiobmncohjaaDoor
