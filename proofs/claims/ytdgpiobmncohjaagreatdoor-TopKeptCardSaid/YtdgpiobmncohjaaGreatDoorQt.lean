/-
 The functions of the seat, translated: what the translation comes to. Each function by its number.
-/
import Derived.Test.YtdgpiobmncohjaaGreatDoorKap
import Derived.Test.YtdgpiobmncohjaaGreatDoorProg
set_option linter.all false
set_option maxRecDepth 100000
set_option maxHeartbeats 4000000
namespace Go.Proofs.YtdgpiobmncohjaaGreatDoor.Aw
open Go.RowKit
def D4 := (CF.mk _ _ : type_of% (cTm Tryz.prog [1000005, 1000009, 1000012, 1000017, 1000018, 1000019, 1000020, 1000021, 1000023, 4000024, 1000025, 4000027] [([0, 1, 7, 9, 10, 11], 1000000000), ([1, 7, 9, 10, 12, 13, 14, 15], 1000000000)] 3 Tryz.f4 (by cbv))) (by kernel_rfl)
def E4 := D4
def U4 := by have h := u_ok E4 D4 rfl; simp only [D4, pA, Nat.reduceAdd] at h; exact h
end Go.Proofs.YtdgpiobmncohjaaGreatDoor.Aw
