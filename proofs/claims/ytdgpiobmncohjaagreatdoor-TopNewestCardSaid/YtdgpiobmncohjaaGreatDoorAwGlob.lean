/-
  What a world's package-level variables are asked to hold: errors.errorType the handle of the type 'error'.
-/
import Derived.WalkKit
import Derived.WalkSpells
import Derived.WalkLawsBesides
import Derived.Lib.FrozenHead
namespace Go.Proofs.YtdgpiobmncohjaaGreatDoor.Aw
open Go.RowKit

def GlobOk (w : World) : Prop := w.cell? ⟨0, 0, none⟩ = some (.iface 272 (.agg #[.pointer (some ⟨1, 27, none⟩)]))
theorem GlobOk.pos {w : World} (h : GlobOk w) : 0 < w.heap.size := by
  rcases Nat.eq_zero_or_pos w.heap.size with h0 | h1
  · simp [GlobOk, World.cell?, h0] at h
  · exact h1
theorem GlobOk.below {w w' : World} (h : GlobOk w) (hb : Below w.heap.size w w') : GlobOk w' := by
  have e := hb.block 0 h.pos
  simpa [GlobOk, World.cell?, e] using h

end Go.Proofs.YtdgpiobmncohjaaGreatDoor.Aw
