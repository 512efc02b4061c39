/-
 The functions of the seat, translated: what the translation comes to. Each function by its number.
-/
import Derived.Test.YtdgpiobmncohjaaGreatDoorKap
import Derived.Test.YtdgpiobmncohjaaGreatDoorProg
set_option linter.all false
set_option maxRecDepth 100000
set_option maxHeartbeats 4000000
namespace Go.Proofs.YtdgpiobmncohjaaGreatDoor.Aw
open Go.RowKit
namespace Ar
def D91 := (CF.mk _ _ : type_of% (cTm Tryz.prog [24, 3000126, 1000126, 7000000, 9000000] [([0, 3, 9, 10, 11], 1000000000), ([6, 25, 26, 27], 1000000000)] 1 Tryz.f91 (by cbv))) (by kernel_rfl)
def E91 := D91
def U91 := by have h := u_ok E91 D91 rfl; simp only [D91, pA, Nat.reduceAdd] at h; exact h
def D126 := (CF.mk _ _ : type_of% (cTm Tryz.prog [7000000, 9000000] [] 2 Tryz.f126 (by cbv))) (by kernel_rfl)
def E126 := D126
def U126 := by have h := u_ok E126 D126 rfl; simp only [D126, pA, Nat.reduceAdd] at h; exact h
def D159 := (CF.mk _ _ : type_of% (cTm Tryz.prog [4000179, 7000000, 9000000] [([0, 1, 5, 6], 1000000000)] 2 Tryz.f159 (by cbv))) (by kernel_rfl)
def E159 := D159
def U159 := by have h := u_ok E159 D159 rfl; simp only [D159, pA, Nat.reduceAdd] at h; exact h
def D160 := (CF.mk _ _ : type_of% (cTm Tryz.prog [] [] 2 Tryz.f160 (by cbv))) (by kernel_rfl)
def E160 := D160
def U160 := by have h := u_ok E160 D160 rfl; simp only [D160, pA, Nat.reduceAdd] at h; exact h
def D162 := (CF.mk _ _ : type_of% (cTm Tryz.prog [7000000, 9000000] [([0, 1, 2, 8, 9, 10], 1000000000)] 3 Tryz.f162 (by cbv))) (by kernel_rfl)
def E162 := D162
def U162 := by have h := u_ok E162 D162 rfl; simp only [D162, pA, Nat.reduceAdd] at h; exact h
def D163 := (CF.mk _ _ : type_of% (cTm Tryz.prog [] [] 2 Tryz.f163 (by cbv))) (by kernel_rfl)
def E163 := D163
def U163 := by have h := u_ok E163 D163 rfl; simp only [D163, pA, Nat.reduceAdd] at h; exact h
def D164 := (CF.mk _ _ : type_of% (cTm Tryz.prog [7000000, 9000000, 8000182, 8000185] [] 3 Tryz.f164 (by cbv))) (by kernel_rfl)
def E164 := D164
def U164 := by have h := u_ok E164 D164 rfl; simp only [D164, pA, Nat.reduceAdd] at h; exact h
def D166 := (CF.mk _ _ : type_of% (cTm Tryz.prog [7000000, 9000000, 8000182, 8000185] [] 3 Tryz.f166 (by cbv))) (by kernel_rfl)
def E166 := D166
def U166 := by have h := u_ok E166 D166 rfl; simp only [D166, pA, Nat.reduceAdd] at h; exact h
def D179 := (CF.mk _ _ : type_of% (cTm Tryz.prog [7000000, 9000000] [([0, 1, 7, 8], 1000000000)] 2 Tryz.f179 (by cbv))) (by kernel_rfl)
def E179 := D179
def U179 := by have h := u_ok E179 D179 rfl; simp only [D179, pA, Nat.reduceAdd] at h; exact h
def D184 := (CF.mk _ _ : type_of% (cTm Tryz.prog [5, 7000000, 9000000] [] 1 Tryz.f184 (by cbv))) (by kernel_rfl)
def E184 := D184
def U184 := by have h := u_ok E184 D184 rfl; simp only [D184, pA, Nat.reduceAdd] at h; exact h
def D187 := (CF.mk _ _ : type_of% (cTm Tryz.prog [5, 7000000, 9000000] [] 1 Tryz.f187 (by cbv))) (by kernel_rfl)
def E187 := D187
def U187 := by have h := u_ok E187 D187 rfl; simp only [D187, pA, Nat.reduceAdd] at h; exact h
def D193 := (CF.mk _ _ : type_of% (cTm Tryz.prog [7000000, 9000000] [] 3 Tryz.f193 (by cbv))) (by kernel_rfl)
def E193 := D193
def U193 := by have h := u_ok E193 D193 rfl; simp only [D193, pA, Nat.reduceAdd] at h; exact h
def D196 := (CF.mk _ _ : type_of% (cTm Tryz.prog [24, 3000199, 1000199, 7000000, 9000000] [([0, 3, 9, 10, 11], 1000000000), ([6, 25, 26, 27], 1000000000)] 1 Tryz.f196 (by cbv))) (by kernel_rfl)
def E196 := D196
def U196 := by have h := u_ok E196 D196 rfl; simp only [D196, pA, Nat.reduceAdd] at h; exact h
def D199 := (CF.mk _ _ : type_of% (cTm Tryz.prog [7000000, 9000000] [] 2 Tryz.f199 (by cbv))) (by kernel_rfl)
def E199 := D199
def U199 := by have h := u_ok E199 D199 rfl; simp only [D199, pA, Nat.reduceAdd] at h; exact h
end Ar
end Go.Proofs.YtdgpiobmncohjaaGreatDoor.Aw
