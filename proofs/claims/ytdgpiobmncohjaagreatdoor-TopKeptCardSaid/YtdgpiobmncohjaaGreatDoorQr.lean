/-
 The functions of the seat, translated: what the translation comes to. Each function by its number.
-/
import Derived.Test.YtdgpiobmncohjaaGreatDoorKap
import Derived.Test.YtdgpiobmncohjaaGreatDoorProg
set_option linter.all false
set_option maxRecDepth 100000
set_option maxHeartbeats 4000000
namespace Go.Proofs.YtdgpiobmncohjaaGreatDoor.Aw
open Go.RowKit
def D64 := (CF.mk _ _ : type_of% (cTm Tryz.prog [4000029, 4000076] [] 2 Tryz.f64 (by cbv))) (by kernel_rfl)
def E64 := D64
def U64 := by have h := u_ok E64 D64 rfl; simp only [D64, pA, Nat.reduceAdd] at h; exact h
end Go.Proofs.YtdgpiobmncohjaaGreatDoor.Aw
