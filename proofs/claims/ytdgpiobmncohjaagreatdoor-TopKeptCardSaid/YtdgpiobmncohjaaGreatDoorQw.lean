/-
 The functions of the seat, translated: what the translation comes to. Each function by its number.
-/
import Derived.Test.YtdgpiobmncohjaaGreatDoorKap
import Derived.Test.YtdgpiobmncohjaaGreatDoorProg
set_option linter.all false
set_option maxRecDepth 100000
set_option maxHeartbeats 4000000
namespace Go.Proofs.YtdgpiobmncohjaaGreatDoor.Aw
open Go.RowKit
def D20 := (CF.mk _ _ : type_of% (cTm Tryz.prog [7000000, 9000000] [([3, 4, 5], 1000000000)] 1 Tryz.f20 (by cbv))) (by kernel_rfl)
def E20 := D20
def U20 := by have h := u_ok E20 D20 rfl; simp only [D20, pA, Nat.reduceAdd] at h; exact h
def D21 := (CF.mk _ _ : type_of% (cTm Tryz.prog [1000058, 1000059, 1000029, 2000000, 7000000, 9000000] [([0, 1, 13, 14, 15], 1000000000)] 2 Tryz.f21 (by cbv))) (by kernel_rfl)
def E21 := D21
def U21 := by have h := u_ok E21 D21 rfl; simp only [D21, pA, Nat.reduceAdd] at h; exact h
def D22 := (CF.mk _ _ : type_of% (cTm Tryz.prog [1000011] [] 4 Tryz.f22 (by cbv))) (by kernel_rfl)
def E22 := D22
def U22 := by have h := u_ok E22 D22 rfl; simp only [D22, pA, Nat.reduceAdd] at h; exact h
def D25 := (CF.mk _ _ : type_of% (cTm Tryz.prog [1000029, 1000017, 1000062, 1000019, 7000000, 9000000] [] 3 Tryz.f25 (by cbv))) (by kernel_rfl)
def E25 := D25
def U25 := by have h := u_ok E25 D25 rfl; simp only [D25, pA, Nat.reduceAdd] at h; exact h
def D26 := (CF.mk _ _ : type_of% (cTm Tryz.prog [4000064] [] 2 Tryz.f26 (by cbv))) (by kernel_rfl)
def E26 := D26
def U26 := by have h := u_ok E26 D26 rfl; simp only [D26, pA, Nat.reduceAdd] at h; exact h
def D58 := (CF.mk _ _ : type_of% (cTm Tryz.prog [3, 1000098, 7000000, 9000000] [] 1 Tryz.f58 (by cbv))) (by kernel_rfl)
def E58 := D58
def U58 := by have h := u_ok E58 D58 rfl; simp only [D58, pA, Nat.reduceAdd] at h; exact h
def D59 := (CF.mk _ _ : type_of% (cTm Tryz.prog [999, 4000100, 4000101, 7000000, 9000000, 9500000] [([8, 32, 33, 34], 1000000000)] 1 Tryz.f59 (by cbv))) (by kernel_rfl)
def E59 := D59
def U59 := by have h := u_ok E59 D59 rfl; simp only [D59, pA, Nat.reduceAdd] at h; exact h
def D62 := (CF.mk _ _ : type_of% (cTm Tryz.prog [85, 1000029, 1000104, 1000105, 1000106, 1000062, 2000000, 7000000, 9000000] [([0, 2, 11, 16, 87, 88, 89], 1000000000)] 3 Tryz.f62 (by cbv))) (by kernel_rfl)
def E62 := D62
def U62 := by have h := u_ok E62 D62 rfl; simp only [D62, pA, Nat.reduceAdd] at h; exact h
def D98 := (CF.mk _ _ : type_of% (cTm Tryz.prog [1000098, 2000000, 7000000, 9000000] [([0, 1, 17, 18, 19], 1000000000)] 2 Tryz.f98 (by cbv))) (by kernel_rfl)
def E98 := D98
def U98 := by have h := u_ok E98 D98 rfl; simp only [D98, pA, Nat.reduceAdd] at h; exact h
def D99 := (CF.mk _ _ : type_of% (cTm Tryz.prog [7000000, 9000000] [] 2 Tryz.f99 (by cbv))) (by kernel_rfl)
def E99 := D99
def U99 := by have h := u_ok E99 D99 rfl; simp only [D99, pA, Nat.reduceAdd] at h; exact h
def D104 := (CF.mk _ _ : type_of% (cTm Tryz.prog [1000141, 7000000, 9000000] [] 1 Tryz.f104 (by cbv))) (by kernel_rfl)
def E104 := D104
def U104 := by have h := u_ok E104 D104 rfl; simp only [D104, pA, Nat.reduceAdd] at h; exact h
def D105 := (CF.mk _ _ : type_of% (cTm Tryz.prog [7000000, 9000000] [] 4 Tryz.f105 (by cbv))) (by kernel_rfl)
def E105 := D105
def U105 := by have h := u_ok E105 D105 rfl; simp only [D105, pA, Nat.reduceAdd] at h; exact h
def D106 := (CF.mk _ _ : type_of% (cTm Tryz.prog [1000143, 7000000, 9000000] [] 1 Tryz.f106 (by cbv))) (by kernel_rfl)
def E106 := D106
def U106 := by have h := u_ok E106 D106 rfl; simp only [D106, pA, Nat.reduceAdd] at h; exact h
def D141 := (CF.mk _ _ : type_of% (cTm Tryz.prog [999, 2000000, 7000000, 9000000, 9500000] [([1, 2, 3, 10, 11, 25, 26], 1000000000)] 4 Tryz.f141 (by cbv))) (by kernel_rfl)
def E141 := D141
def U141 := by have h := u_ok E141 D141 rfl; simp only [D141, pA, Nat.reduceAdd] at h; exact h
def D143 := (CF.mk _ _ : type_of% (cTm Tryz.prog [999, 2000000, 7000000, 9000000, 9500000] [([1, 2, 3, 10, 11, 25, 26], 1000000000)] 4 Tryz.f143 (by cbv))) (by kernel_rfl)
def E143 := D143
def U143 := by have h := u_ok E143 D143 rfl; simp only [D143, pA, Nat.reduceAdd] at h; exact h
end Go.Proofs.YtdgpiobmncohjaaGreatDoor.Aw
