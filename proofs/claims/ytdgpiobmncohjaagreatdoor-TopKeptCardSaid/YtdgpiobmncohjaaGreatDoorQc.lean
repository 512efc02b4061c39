/-
 The functions of the seat, translated: what the translation comes to. Each function by its number.
-/
import Derived.Test.YtdgpiobmncohjaaGreatDoorKap
import Derived.Test.YtdgpiobmncohjaaGreatDoorProg
set_option linter.all false
set_option maxRecDepth 100000
set_option maxHeartbeats 4000000
namespace Go.Proofs.YtdgpiobmncohjaaGreatDoor.Aw
open Go.RowKit
def D52 := (CF.mk _ _ : type_of% (cTm Tryz.prog [] [] 1 Tryz.f52 (by cbv))) (by kernel_rfl)
def E52 := D52
def U52 := by have h := u_ok E52 D52 rfl; simp only [D52, pA, Nat.reduceAdd] at h; exact h
def D54 := (CF.mk _ _ : type_of% (cTm Tryz.prog [] [] 2 Tryz.f54 (by cbv))) (by kernel_rfl)
def E54 := D54
def U54 := by have h := u_ok E54 D54 rfl; simp only [D54, pA, Nat.reduceAdd] at h; exact h
def D60 := (CF.mk _ _ : type_of% (cTm Tryz.prog [] [] 3 Tryz.f60 (by cbv))) (by kernel_rfl)
def E60 := D60
def U60 := by have h := u_ok E60 D60 rfl; simp only [D60, pA, Nat.reduceAdd] at h; exact h
def D63 := (CF.mk _ _ : type_of% (cTm Tryz.prog [] [([0, 5, 6, 7], 0)] 1 Tryz.f63 (by cbv))) (by kernel_rfl)
def E63 := D63
def U63 := by have h := u_ok E63 D63 rfl; simp only [D63, pA, Nat.reduceAdd] at h; exact h
def D88 := (CF.mk _ _ : type_of% (cTm Tryz.prog [] [] 2 Tryz.f88 (by cbv))) (by kernel_rfl)
def E88 := D88
def U88 := by have h := u_ok E88 D88 rfl; simp only [D88, pA, Nat.reduceAdd] at h; exact h
def D90 := (CF.mk _ _ : type_of% (cTm Tryz.prog [3] [([3, 7, 8, 9], 1)] 1 Tryz.f90 (by cbv))) (by kernel_rfl)
def E90 := D90
def U90 := by have h := u_ok E90 D90 rfl; simp only [D90, pA, Nat.reduceAdd] at h; exact h
def D91 := (CF.mk _ _ : type_of% (cTm Tryz.prog [24, 3000126] [([0, 3, 9, 10, 11], 0), ([6, 25, 26, 27], 1)] 1 Tryz.f91 (by cbv))) (by kernel_rfl)
def E91 := D91
def U91 := by have h := u_ok E91 D91 rfl; simp only [D91, pA, Nat.reduceAdd] at h; exact h
def D92 := (CF.mk _ _ : type_of% (cTm Tryz.prog [7] [([1, 2, 7, 12, 13, 14], 1)] 3 Tryz.f92 (by cbv))) (by kernel_rfl)
def E92 := D92
def U92 := by have h := u_ok E92 D92 rfl; simp only [D92, pA, Nat.reduceAdd] at h; exact h
def D93 := (CF.mk _ _ : type_of% (cTm Tryz.prog [] [] 1 Tryz.f93 (by cbv))) (by kernel_rfl)
def E93 := D93
def U93 := by have h := u_ok E93 D93 rfl; simp only [D93, pA, Nat.reduceAdd] at h; exact h
def D94 := (CF.mk _ _ : type_of% (cTm Tryz.prog [] [] 2 Tryz.f94 (by cbv))) (by kernel_rfl)
def E94 := D94
def U94 := by have h := u_ok E94 D94 rfl; simp only [D94, pA, Nat.reduceAdd] at h; exact h
def D107 := (CF.mk _ _ : type_of% (cTm Tryz.prog [] [] 2 Tryz.f107 (by cbv))) (by kernel_rfl)
def E107 := D107
def U107 := by have h := u_ok E107 D107 rfl; simp only [D107, pA, Nat.reduceAdd] at h; exact h
def D126 := (CF.mk _ _ : type_of% (cTm Tryz.prog [] [] 2 Tryz.f126 (by cbv))) (by kernel_rfl)
def E126 := D126
def U126 := by have h := u_ok E126 D126 rfl; simp only [D126, pA, Nat.reduceAdd] at h; exact h
def D127 := (CF.mk _ _ : type_of% (cTm Tryz.prog [] [] 3 Tryz.f127 (by cbv))) (by kernel_rfl)
def E127 := D127
def U127 := by have h := u_ok E127 D127 rfl; simp only [D127, pA, Nat.reduceAdd] at h; exact h
def D128 := (CF.mk _ _ : type_of% (cTm Tryz.prog [] [([0, 3, 7, 8], 1)] 2 Tryz.f128 (by cbv))) (by kernel_rfl)
def E128 := D128
def U128 := by have h := u_ok E128 D128 rfl; simp only [D128, pA, Nat.reduceAdd] at h; exact h
def D179 := (CF.mk _ _ : type_of% (cTm Tryz.prog [] [([0, 1, 7, 8], 0)] 2 Tryz.f179 (by cbv))) (by kernel_rfl)
def E179 := D179
def U179 := by have h := u_ok E179 D179 rfl; simp only [D179, pA, Nat.reduceAdd] at h; exact h
end Go.Proofs.YtdgpiobmncohjaaGreatDoor.Aw
