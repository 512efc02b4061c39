/-
 The functions of the seat, translated: what the translation comes to. Each function by its number.
-/
import Derived.Test.YtdgpiobmncohjaaGreatDoorKap
import Derived.Test.YtdgpiobmncohjaaGreatDoorProg
set_option linter.all false
set_option maxRecDepth 100000
set_option maxHeartbeats 4000000
namespace Go.Proofs.YtdgpiobmncohjaaGreatDoor.Aw
open Go.RowKit
def D5 := (CF.mk _ _ : type_of% (cTm Tryz.prog [21, 22, 1000029] [] 1 Tryz.f5 (by cbv))) (by kernel_rfl)
def E5 := D5
def U5 := by have h := u_ok E5 D5 rfl; simp only [D5, pA, Nat.reduceAdd] at h; exact h
def D6 := (CF.mk _ _ : type_of% (cTm Tryz.prog [] [] 0 Tryz.f6 (by cbv))) (by kernel_rfl)
def E6 := D6
def U6 := by have h := u_ok E6 D6 rfl; simp only [D6, pA, Nat.reduceAdd] at h; exact h
def D7 := (CF.mk _ _ : type_of% (cTm Tryz.prog [1000005, 1000031, 1000032] [] 0 Tryz.f7 (by cbv))) (by kernel_rfl)
def E7 := D7
def U7 := by have h := u_ok E7 D7 rfl; simp only [D7, pA, Nat.reduceAdd] at h; exact h
def D12 := (CF.mk _ _ : type_of% (cTm Tryz.prog [] [([0, 11, 12, 13], 1000000000)] 2 Tryz.f12 (by cbv))) (by kernel_rfl)
def E12 := D12
def U12 := by have h := u_ok E12 D12 rfl; simp only [D12, pA, Nat.reduceAdd] at h; exact h
def D27 := (CF.mk _ _ : type_of% (cTm Tryz.prog [] [([0, 1, 5], 0)] 2 Tryz.f27 (by cbv))) (by kernel_rfl)
def E27 := D27
def U27 := by have h := u_ok E27 D27 rfl; simp only [D27, pA, Nat.reduceAdd] at h; exact h
def D28 := (CF.mk _ _ : type_of% (cTm Tryz.prog [] [] 3 Tryz.f28 (by cbv))) (by kernel_rfl)
def E28 := D28
def U28 := by have h := u_ok E28 D28 rfl; simp only [D28, pA, Nat.reduceAdd] at h; exact h
def D29 := (CF.mk _ _ : type_of% (cTm Tryz.prog [] [] 3 Tryz.f29 (by cbv))) (by kernel_rfl)
def E29 := D29
def U29 := by have h := u_ok E29 D29 rfl; simp only [D29, pA, Nat.reduceAdd] at h; exact h
def D31 := (CF.mk _ _ : type_of% (cTm Tryz.prog [1000066, 1000029] [] 3 Tryz.f31 (by cbv))) (by kernel_rfl)
def E31 := D31
def U31 := by have h := u_ok E31 D31 rfl; simp only [D31, pA, Nat.reduceAdd] at h; exact h
def D32 := (CF.mk _ _ : type_of% (cTm Tryz.prog [1000067, 1000029] [] 2 Tryz.f32 (by cbv))) (by kernel_rfl)
def E32 := D32
def U32 := by have h := u_ok E32 D32 rfl; simp only [D32, pA, Nat.reduceAdd] at h; exact h
def D37 := (CF.mk _ _ : type_of% (cTm Tryz.prog [] [] 1 Tryz.f37 (by cbv))) (by kernel_rfl)
def E37 := D37
def U37 := by have h := u_ok E37 D37 rfl; simp only [D37, pA, Nat.reduceAdd] at h; exact h
def D38 := (CF.mk _ _ : type_of% (cTm Tryz.prog [] [] 1 Tryz.f38 (by cbv))) (by kernel_rfl)
def E38 := D38
def U38 := by have h := u_ok E38 D38 rfl; simp only [D38, pA, Nat.reduceAdd] at h; exact h
def D66 := (CF.mk _ _ : type_of% (cTm Tryz.prog [1000109, 1000112, 7000000, 9000000] [] 3 Tryz.f66 (by cbv))) (by kernel_rfl)
def E66 := D66
def U66 := by have h := u_ok E66 D66 rfl; simp only [D66, pA, Nat.reduceAdd] at h; exact h
def D67 := (CF.mk _ _ : type_of% (cTm Tryz.prog [1000109, 7000000, 9000000] [] 2 Tryz.f67 (by cbv))) (by kernel_rfl)
def E67 := D67
def U67 := by have h := u_ok E67 D67 rfl; simp only [D67, pA, Nat.reduceAdd] at h; exact h
def D74 := (CF.mk _ _ : type_of% (cTm Tryz.prog [4000117, 7000000, 9000000] [] 2 Tryz.f74 (by cbv))) (by kernel_rfl)
def E74 := D74
def U74 := by have h := u_ok E74 D74 rfl; simp only [D74, pA, Nat.reduceAdd] at h; exact h
def D75 := (CF.mk _ _ : type_of% (cTm Tryz.prog [4000117, 7000000, 9000000] [] 2 Tryz.f75 (by cbv))) (by kernel_rfl)
def E75 := D75
def U75 := by have h := u_ok E75 D75 rfl; simp only [D75, pA, Nat.reduceAdd] at h; exact h
def D83 := (CF.mk _ _ : type_of% (cTm Tryz.prog [] [] 1 Tryz.f83 (by cbv))) (by kernel_rfl)
def E83 := D83
def U83 := by have h := u_ok E83 D83 rfl; simp only [D83, pA, Nat.reduceAdd] at h; exact h
def D85 := (CF.mk _ _ : type_of% (cTm Tryz.prog [1000123] [] 1 Tryz.f85 (by cbv))) (by kernel_rfl)
def E85 := D85
def U85 := by have h := u_ok E85 D85 rfl; simp only [D85, pA, Nat.reduceAdd] at h; exact h
def D109 := (CF.mk _ _ : type_of% (cTm Tryz.prog [2000000] [] 2 Tryz.f109 (by cbv))) (by kernel_rfl)
def E109 := D109
def U109 := by have h := u_ok E109 D109 rfl; simp only [D109, pA, Nat.reduceAdd] at h; exact h
def D110 := (CF.mk _ _ : type_of% (cTm Tryz.prog [4000111] [] 3 Tryz.f110 (by cbv))) (by kernel_rfl)
def E110 := D110
def U110 := by have h := u_ok E110 D110 rfl; simp only [D110, pA, Nat.reduceAdd] at h; exact h
def D111 := (CF.mk _ _ : type_of% (cTm Tryz.prog [] [] 2 Tryz.f111 (by cbv))) (by kernel_rfl)
def E111 := D111
def U111 := by have h := u_ok E111 D111 rfl; simp only [D111, pA, Nat.reduceAdd] at h; exact h
def D112 := (CF.mk _ _ : type_of% (cTm Tryz.prog [1000146] [] 1 Tryz.f112 (by cbv))) (by kernel_rfl)
def E112 := D112
def U112 := by have h := u_ok E112 D112 rfl; simp only [D112, pA, Nat.reduceAdd] at h; exact h
def D113 := (CF.mk _ _ : type_of% (cTm Tryz.prog [] [] 2 Tryz.f113 (by cbv))) (by kernel_rfl)
def E113 := D113
def U113 := by have h := u_ok E113 D113 rfl; simp only [D113, pA, Nat.reduceAdd] at h; exact h
def D114 := (CF.mk _ _ : type_of% (cTm Tryz.prog [4000111] [] 2 Tryz.f114 (by cbv))) (by kernel_rfl)
def E114 := D114
def U114 := by have h := u_ok E114 D114 rfl; simp only [D114, pA, Nat.reduceAdd] at h; exact h
def D117 := (CF.mk _ _ : type_of% (cTm Tryz.prog [] [] 2 Tryz.f117 (by cbv))) (by kernel_rfl)
def E117 := D117
def U117 := by have h := u_ok E117 D117 rfl; simp only [D117, pA, Nat.reduceAdd] at h; exact h
def D140 := (CF.mk _ _ : type_of% (cTm Tryz.prog [4000117, 7000000, 9000000] [] 2 Tryz.f140 (by cbv))) (by kernel_rfl)
def E140 := D140
def U140 := by have h := u_ok E140 D140 rfl; simp only [D140, pA, Nat.reduceAdd] at h; exact h
def D146 := (CF.mk _ _ : type_of% (cTm Tryz.prog [2000000] [([0, 1, 7, 8], 1000000000)] 2 Tryz.f146 (by cbv))) (by kernel_rfl)
def E146 := D146
def U146 := by have h := u_ok E146 D146 rfl; simp only [D146, pA, Nat.reduceAdd] at h; exact h
def D147 := (CF.mk _ _ : type_of% (cTm Tryz.prog [] [] 2 Tryz.f147 (by cbv))) (by kernel_rfl)
def E147 := D147
def U147 := by have h := u_ok E147 D147 rfl; simp only [D147, pA, Nat.reduceAdd] at h; exact h
end Go.Proofs.YtdgpiobmncohjaaGreatDoor.Aw
