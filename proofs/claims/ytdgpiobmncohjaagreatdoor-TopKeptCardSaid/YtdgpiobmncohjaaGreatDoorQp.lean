/-
 The functions of the seat, translated: what the translation comes to. Each function by its number.
-/
import Derived.Test.YtdgpiobmncohjaaGreatDoorKap
import Derived.Test.YtdgpiobmncohjaaGreatDoorProg
set_option linter.all false
set_option maxRecDepth 100000
set_option maxHeartbeats 4000000
namespace Go.Proofs.YtdgpiobmncohjaaGreatDoor.Aw
open Go.RowKit
def D8 := (CF.mk _ _ : type_of% (cTm Tryz.prog [] [] 1 Tryz.f8 (by cbv))) (by kernel_rfl)
def E8 := D8
def U8 := by have h := u_ok E8 D8 rfl; simp only [D8, pA, Nat.reduceAdd] at h; exact h
def D30 := (CF.mk _ _ : type_of% (cTm Tryz.prog [] [] 1 Tryz.f30 (by cbv))) (by kernel_rfl)
def E30 := D30
def U30 := by have h := u_ok E30 D30 rfl; simp only [D30, pA, Nat.reduceAdd] at h; exact h
def D33 := (CF.mk _ _ : type_of% (cTm Tryz.prog [] [] 1 Tryz.f33 (by cbv))) (by kernel_rfl)
def E33 := D33
def U33 := by have h := u_ok E33 D33 rfl; simp only [D33, pA, Nat.reduceAdd] at h; exact h
def D34 := (CF.mk _ _ : type_of% (cTm Tryz.prog [4] [([0, 4, 7, 14, 15, 16], 1)] 2 Tryz.f34 (by cbv))) (by kernel_rfl)
def E34 := D34
def U34 := by have h := u_ok E34 D34 rfl; simp only [D34, pA, Nat.reduceAdd] at h; exact h
def D35 := (CF.mk _ _ : type_of% (cTm Tryz.prog [] [] 0 Tryz.f35 (by cbv))) (by kernel_rfl)
def E35 := D35
def U35 := by have h := u_ok E35 D35 rfl; simp only [D35, pA, Nat.reduceAdd] at h; exact h
def D36 := (CF.mk _ _ : type_of% (cTm Tryz.prog [] [] 1 Tryz.f36 (by cbv))) (by kernel_rfl)
def E36 := D36
def U36 := by have h := u_ok E36 D36 rfl; simp only [D36, pA, Nat.reduceAdd] at h; exact h
def D43 := (CF.mk _ _ : type_of% (cTm Tryz.prog [6, 1000080, 1000082] [([1, 6, 18, 19, 20], 2)] 2 Tryz.f43 (by cbv))) (by kernel_rfl)
def E43 := D43
def U43 := by have h := u_ok E43 D43 rfl; simp only [D43, pA, Nat.reduceAdd] at h; exact h
def D65 := (CF.mk _ _ : type_of% (cTm Tryz.prog [] [] 1 Tryz.f65 (by cbv))) (by kernel_rfl)
def E65 := D65
def U65 := by have h := u_ok E65 D65 rfl; simp only [D65, pA, Nat.reduceAdd] at h; exact h
def D68 := (CF.mk _ _ : type_of% (cTm Tryz.prog [] [] 2 Tryz.f68 (by cbv))) (by kernel_rfl)
def E68 := D68
def U68 := by have h := u_ok E68 D68 rfl; simp only [D68, pA, Nat.reduceAdd] at h; exact h
def D69 := (CF.mk _ _ : type_of% (cTm Tryz.prog [] [] 1 Tryz.f69 (by cbv))) (by kernel_rfl)
def E69 := D69
def U69 := by have h := u_ok E69 D69 rfl; simp only [D69, pA, Nat.reduceAdd] at h; exact h
def D70 := (CF.mk _ _ : type_of% (cTm Tryz.prog [] [([0, 1, 8, 9], 0)] 3 Tryz.f70 (by cbv))) (by kernel_rfl)
def E70 := D70
def U70 := by have h := u_ok E70 D70 rfl; simp only [D70, pA, Nat.reduceAdd] at h; exact h
def D71 := (CF.mk _ _ : type_of% (cTm Tryz.prog [] [] 2 Tryz.f71 (by cbv))) (by kernel_rfl)
def E71 := D71
def U71 := by have h := u_ok E71 D71 rfl; simp only [D71, pA, Nat.reduceAdd] at h; exact h
def D79 := (CF.mk _ _ : type_of% (cTm Tryz.prog [] [] 2 Tryz.f79 (by cbv))) (by kernel_rfl)
def E79 := D79
def U79 := by have h := u_ok E79 D79 rfl; simp only [D79, pA, Nat.reduceAdd] at h; exact h
def D80 := (CF.mk _ _ : type_of% (cTm Tryz.prog [1000118] [] 2 Tryz.f80 (by cbv))) (by kernel_rfl)
def E80 := D80
def U80 := by have h := u_ok E80 D80 rfl; simp only [D80, pA, Nat.reduceAdd] at h; exact h
def D81 := (CF.mk _ _ : type_of% (cTm Tryz.prog [] [] 2 Tryz.f81 (by cbv))) (by kernel_rfl)
def E81 := D81
def U81 := by have h := u_ok E81 D81 rfl; simp only [D81, pA, Nat.reduceAdd] at h; exact h
def D82 := (CF.mk _ _ : type_of% (cTm Tryz.prog [] [] 1 Tryz.f82 (by cbv))) (by kernel_rfl)
def E82 := D82
def U82 := by have h := u_ok E82 D82 rfl; simp only [D82, pA, Nat.reduceAdd] at h; exact h
def D108 := (CF.mk _ _ : type_of% (cTm Tryz.prog [] [] 1 Tryz.f108 (by cbv))) (by kernel_rfl)
def E108 := D108
def U108 := by have h := u_ok E108 D108 rfl; simp only [D108, pA, Nat.reduceAdd] at h; exact h
def D115 := (CF.mk _ _ : type_of% (cTm Tryz.prog [] [([0, 1, 7, 8], 0)] 2 Tryz.f115 (by cbv))) (by kernel_rfl)
def E115 := D115
def U115 := by have h := u_ok E115 D115 rfl; simp only [D115, pA, Nat.reduceAdd] at h; exact h
def D116 := (CF.mk _ _ : type_of% (cTm Tryz.prog [] [] 1 Tryz.f116 (by cbv))) (by kernel_rfl)
def E116 := D116
def U116 := by have h := u_ok E116 D116 rfl; simp only [D116, pA, Nat.reduceAdd] at h; exact h
def D145 := (CF.mk _ _ : type_of% (cTm Tryz.prog [] [([1, 5, 10, 11], 0)] 2 Tryz.f145 (by cbv))) (by kernel_rfl)
def E145 := D145
def U145 := by have h := u_ok E145 D145 rfl; simp only [D145, pA, Nat.reduceAdd] at h; exact h
def D172 := (CF.mk _ _ : type_of% (cTm Tryz.prog [] [([0, 10], 0)] 2 Tryz.f172 (by cbv))) (by kernel_rfl)
def E172 := D172
def U172 := by have h := u_ok E172 D172 rfl; simp only [D172, pA, Nat.reduceAdd] at h; exact h
end Go.Proofs.YtdgpiobmncohjaaGreatDoor.Aw
