/-
  What a world's package-level variables are asked to hold (here: nothing).
-/
import Derived.WalkKit
import Derived.WalkSpells
namespace Go.Proofs.YtdgpiobmncohjaaGreat.Aw
open Go.RowKit

def GlobOk (_w : World) : Prop := True
theorem GlobOk.below {w w' : World} (_h : GlobOk w) (_hb : Below w.heap.size w w') : GlobOk w' := trivial

end Go.Proofs.YtdgpiobmncohjaaGreat.Aw
