/-
 The functions of the seat, translated: what the translation comes to. Each function by its number.
-/
import Derived.Test.YtdgpiobmncohjaaGreatDoorKap
import Derived.Test.YtdgpiobmncohjaaGreatDoorProg
set_option linter.all false
set_option maxRecDepth 100000
set_option maxHeartbeats 4000000
namespace Go.Proofs.YtdgpiobmncohjaaGreatDoor.Aw
open Go.RowKit
def D17 := (CF.mk _ _ : type_of% (cTm Tryz.prog [] [] 0 Tryz.f17 (by cbv))) (by kernel_rfl)
def E17 := D17
def U17 := by have h := u_ok E17 D17 rfl; simp only [D17, pA, Nat.reduceAdd] at h; exact h
def D18 := (CF.mk _ _ : type_of% (cTm Tryz.prog [1000053, 1000054, 1000055] [] 2 Tryz.f18 (by cbv))) (by kernel_rfl)
def E18 := D18
def U18 := by have h := u_ok E18 D18 rfl; simp only [D18, pA, Nat.reduceAdd] at h; exact h
def D19 := (CF.mk _ _ : type_of% (cTm Tryz.prog [3, 1000056] [] 1 Tryz.f19 (by cbv))) (by kernel_rfl)
def E19 := D19
def U19 := by have h := u_ok E19 D19 rfl; simp only [D19, pA, Nat.reduceAdd] at h; exact h
def D23 := (CF.mk _ _ : type_of% (cTm Tryz.prog [1000060, 1000053, 1000055] [] 3 Tryz.f23 (by cbv))) (by kernel_rfl)
def E23 := D23
def U23 := by have h := u_ok E23 D23 rfl; simp only [D23, pA, Nat.reduceAdd] at h; exact h
def D53 := (CF.mk _ _ : type_of% (cTm Tryz.prog [7, 1000056] [] 3 Tryz.f53 (by cbv))) (by kernel_rfl)
def E53 := D53
def U53 := by have h := u_ok E53 D53 rfl; simp only [D53, pA, Nat.reduceAdd] at h; exact h
def D55 := (CF.mk _ _ : type_of% (cTm Tryz.prog [1000095, 1000096] [([0, 1, 2, 10, 11, 12], 1000000000), ([0, 1, 25, 26, 27], 1000000000)] 3 Tryz.f55 (by cbv))) (by kernel_rfl)
def E55 := D55
def U55 := by have h := u_ok E55 D55 rfl; simp only [D55, pA, Nat.reduceAdd] at h; exact h
def D56 := (CF.mk _ _ : type_of% (cTm Tryz.prog [1000097] [] 3 Tryz.f56 (by cbv))) (by kernel_rfl)
def E56 := D56
def U56 := by have h := u_ok E56 D56 rfl; simp only [D56, pA, Nat.reduceAdd] at h; exact h
def D57 := (CF.mk _ _ : type_of% (cTm Tryz.prog [] [] 2 Tryz.f57 (by cbv))) (by kernel_rfl)
def E57 := D57
def U57 := by have h := u_ok E57 D57 rfl; simp only [D57, pA, Nat.reduceAdd] at h; exact h
def D89 := (CF.mk _ _ : type_of% (cTm Tryz.prog [] [] 4 Tryz.f89 (by cbv))) (by kernel_rfl)
def E89 := D89
def U89 := by have h := u_ok E89 D89 rfl; simp only [D89, pA, Nat.reduceAdd] at h; exact h
def D95 := (CF.mk _ _ : type_of% (cTm Tryz.prog [1000129, 7000000, 9000000] [] 2 Tryz.f95 (by cbv))) (by kernel_rfl)
def E95 := D95
def U95 := by have h := u_ok E95 D95 rfl; simp only [D95, pA, Nat.reduceAdd] at h; exact h
def D96 := (CF.mk _ _ : type_of% (cTm Tryz.prog [1000130, 7000000, 9000000] [] 2 Tryz.f96 (by cbv))) (by kernel_rfl)
def E96 := D96
def U96 := by have h := u_ok E96 D96 rfl; simp only [D96, pA, Nat.reduceAdd] at h; exact h
def D97 := (CF.mk _ _ : type_of% (cTm Tryz.prog [4000131, 1000097, 2000000, 7000000, 9000000] [([1, 2, 20, 21, 22], 1000000000), ([1, 2, 50, 51, 52], 1000000000)] 3 Tryz.f97 (by cbv))) (by kernel_rfl)
def E97 := D97
def U97 := by have h := u_ok E97 D97 rfl; simp only [D97, pA, Nat.reduceAdd] at h; exact h
def D129 := (CF.mk _ _ : type_of% (cTm Tryz.prog [1000159, 4000131, 1000129, 1000161, 7000000, 9000000] [] 2 Tryz.f129 (by cbv))) (by kernel_rfl)
def E129 := D129
def U129 := by have h := u_ok E129 D129 rfl; simp only [D129, pA, Nat.reduceAdd] at h; exact h
def D130 := (CF.mk _ _ : type_of% (cTm Tryz.prog [4000162, 1000164, 1000165, 4000131, 1000130, 1000166, 1000167, 7000000, 9000000] [] 2 Tryz.f130 (by cbv))) (by kernel_rfl)
def E130 := D130
def U130 := by have h := u_ok E130 D130 rfl; simp only [D130, pA, Nat.reduceAdd] at h; exact h
def D131 := (CF.mk _ _ : type_of% (cTm Tryz.prog [7000000, 9000000] [([0, 1, 5], 1000000000)] 2 Tryz.f131 (by cbv))) (by kernel_rfl)
def E131 := D131
def U131 := by have h := u_ok E131 D131 rfl; simp only [D131, pA, Nat.reduceAdd] at h; exact h
def D161 := (CF.mk _ _ : type_of% (cTm Tryz.prog [1000180, 1000181, 7000000, 9000000] [] 2 Tryz.f161 (by cbv))) (by kernel_rfl)
def E161 := D161
def U161 := by have h := u_ok E161 D161 rfl; simp only [D161, pA, Nat.reduceAdd] at h; exact h
def D165 := (CF.mk _ _ : type_of% (cTm Tryz.prog [1000184, 7000000, 9000000] [] 1 Tryz.f165 (by cbv))) (by kernel_rfl)
def E165 := D165
def U165 := by have h := u_ok E165 D165 rfl; simp only [D165, pA, Nat.reduceAdd] at h; exact h
def D167 := (CF.mk _ _ : type_of% (cTm Tryz.prog [1000187, 7000000, 9000000] [] 1 Tryz.f167 (by cbv))) (by kernel_rfl)
def E167 := D167
def U167 := by have h := u_ok E167 D167 rfl; simp only [D167, pA, Nat.reduceAdd] at h; exact h
def D180 := (CF.mk _ _ : type_of% (cTm Tryz.prog [1000191, 1000192, 7000000, 9000000] [] 3 Tryz.f180 (by cbv))) (by kernel_rfl)
def E180 := D180
def U180 := by have h := u_ok E180 D180 rfl; simp only [D180, pA, Nat.reduceAdd] at h; exact h
def D181 := (CF.mk _ _ : type_of% (cTm Tryz.prog [1000180, 1000193, 7000000, 9000000] [] 2 Tryz.f181 (by cbv))) (by kernel_rfl)
def E181 := D181
def U181 := by have h := u_ok E181 D181 rfl; simp only [D181, pA, Nat.reduceAdd] at h; exact h
def D191 := (CF.mk _ _ : type_of% (cTm Tryz.prog [1000091, 1000184, 7000000, 9000000] [] 3 Tryz.f191 (by cbv))) (by kernel_rfl)
def E191 := D191
def U191 := by have h := u_ok E191 D191 rfl; simp only [D191, pA, Nat.reduceAdd] at h; exact h
def D192 := (CF.mk _ _ : type_of% (cTm Tryz.prog [1000196, 1000187, 7000000, 9000000] [] 3 Tryz.f192 (by cbv))) (by kernel_rfl)
def E192 := D192
def U192 := by have h := u_ok E192 D192 rfl; simp only [D192, pA, Nat.reduceAdd] at h; exact h
def D219 := (CF.mk _ _ : type_of% (cTm Tryz.prog [7000000, 9000000] [] 1 Tryz.f219 (by cbv))) (by kernel_rfl)
def E219 := D219
def U219 := by have h := u_ok E219 D219 rfl; simp only [D219, pA, Nat.reduceAdd] at h; exact h
def D220 := (CF.mk _ _ : type_of% (cTm Tryz.prog [7000000, 9000000] [] 1 Tryz.f220 (by cbv))) (by kernel_rfl)
def E220 := D220
def U220 := by have h := u_ok E220 D220 rfl; simp only [D220, pA, Nat.reduceAdd] at h; exact h
def D221 := (CF.mk _ _ : type_of% (cTm Tryz.prog [7000000, 9000000] [] 1 Tryz.f221 (by cbv))) (by kernel_rfl)
def E221 := D221
def U221 := by have h := u_ok E221 D221 rfl; simp only [D221, pA, Nat.reduceAdd] at h; exact h
def D225 := (CF.mk _ _ : type_of% (cTm Tryz.prog [7000000, 9000000] [] 1 Tryz.f225 (by cbv))) (by kernel_rfl)
def E225 := D225
def U225 := by have h := u_ok E225 D225 rfl; simp only [D225, pA, Nat.reduceAdd] at h; exact h
def D226 := (CF.mk _ _ : type_of% (cTm Tryz.prog [7000000, 9000000] [] 1 Tryz.f226 (by cbv))) (by kernel_rfl)
def E226 := D226
def U226 := by have h := u_ok E226 D226 rfl; simp only [D226, pA, Nat.reduceAdd] at h; exact h
def D227 := (CF.mk _ _ : type_of% (cTm Tryz.prog [7000000, 9000000] [] 1 Tryz.f227 (by cbv))) (by kernel_rfl)
def E227 := D227
def U227 := by have h := u_ok E227 D227 rfl; simp only [D227, pA, Nat.reduceAdd] at h; exact h
end Go.Proofs.YtdgpiobmncohjaaGreatDoor.Aw
