/-
 The functions of the seat, translated: what the translation comes to. Each function by its number.
-/
import Derived.Test.YtdgpiobmncohjaaGreatDoorKap
import Derived.Test.YtdgpiobmncohjaaGreatDoorProg
set_option linter.all false
set_option maxRecDepth 100000
set_option maxHeartbeats 4000000
namespace Go.Proofs.YtdgpiobmncohjaaGreatDoor.Aw
open Go.RowKit
def D9 := (CF.mk _ _ : type_of% (cTm Tryz.prog [21, 1000029, 4000037, 4000038, 4000040, 1000041] [([0, 4, 47, 48], 1000000000), ([4, 65, 66, 67], 1000000000)] 1 Tryz.f9 (by cbv))) (by kernel_rfl)
def E9 := D9
def U9 := by have h := u_ok E9 D9 rfl; simp only [D9, pA, Nat.reduceAdd] at h; exact h
def D11 := (CF.mk _ _ : type_of% (cTm Tryz.prog [1000046, 1000029] [] 2 Tryz.f11 (by cbv))) (by kernel_rfl)
def E11 := D11
def U11 := by have h := u_ok E11 D11 rfl; simp only [D11, pA, Nat.reduceAdd] at h; exact h
def D24 := (CF.mk _ _ : type_of% (cTm Tryz.prog [4000061] [] 1 Tryz.f24 (by cbv))) (by kernel_rfl)
def E24 := D24
def U24 := by have h := u_ok E24 D24 rfl; simp only [D24, pA, Nat.reduceAdd] at h; exact h
def D39 := (CF.mk _ _ : type_of% (cTm Tryz.prog [] [] 1 Tryz.f39 (by cbv))) (by kernel_rfl)
def E39 := D39
def U39 := by have h := u_ok E39 D39 rfl; simp only [D39, pA, Nat.reduceAdd] at h; exact h
def D40 := (CF.mk _ _ : type_of% (cTm Tryz.prog [4000074, 4000075] [] 2 Tryz.f40 (by cbv))) (by kernel_rfl)
def E40 := D40
def U40 := by have h := u_ok E40 D40 rfl; simp only [D40, pA, Nat.reduceAdd] at h; exact h
def D41 := (CF.mk _ _ : type_of% (cTm Tryz.prog [3, 4000076] [([0, 3, 11, 12], 1000000000)] 1 Tryz.f41 (by cbv))) (by kernel_rfl)
def E41 := D41
def U41 := by have h := u_ok E41 D41 rfl; simp only [D41, pA, Nat.reduceAdd] at h; exact h
def D46 := (CF.mk _ _ : type_of% (cTm Tryz.prog [4000083, 1000084, 4000085] [] 2 Tryz.f46 (by cbv))) (by kernel_rfl)
def E46 := D46
def U46 := by have h := u_ok E46 D46 rfl; simp only [D46, pA, Nat.reduceAdd] at h; exact h
def D50 := (CF.mk _ _ : type_of% (cTm Tryz.prog [] [] 2 Tryz.f50 (by cbv))) (by kernel_rfl)
def E50 := D50
def U50 := by have h := u_ok E50 D50 rfl; simp only [D50, pA, Nat.reduceAdd] at h; exact h
def D61 := (CF.mk _ _ : type_of% (cTm Tryz.prog [1000103] [] 1 Tryz.f61 (by cbv))) (by kernel_rfl)
def E61 := D61
def U61 := by have h := u_ok E61 D61 rfl; simp only [D61, pA, Nat.reduceAdd] at h; exact h
def D72 := (CF.mk _ _ : type_of% (cTm Tryz.prog [] [] 1 Tryz.f72 (by cbv))) (by kernel_rfl)
def E72 := D72
def U72 := by have h := u_ok E72 D72 rfl; simp only [D72, pA, Nat.reduceAdd] at h; exact h
def D73 := (CF.mk _ _ : type_of% (cTm Tryz.prog [] [] 1 Tryz.f73 (by cbv))) (by kernel_rfl)
def E73 := D73
def U73 := by have h := u_ok E73 D73 rfl; simp only [D73, pA, Nat.reduceAdd] at h; exact h
def D76 := (CF.mk _ _ : type_of% (cTm Tryz.prog [1000032, 4000085] [] 2 Tryz.f76 (by cbv))) (by kernel_rfl)
def E76 := D76
def U76 := by have h := u_ok E76 D76 rfl; simp only [D76, pA, Nat.reduceAdd] at h; exact h
def D84 := (CF.mk _ _ : type_of% (cTm Tryz.prog [4000024, 1000119, 1000031, 4000120, 1000121] [([0, 1], 1000000000)] 2 Tryz.f84 (by cbv))) (by kernel_rfl)
def E84 := D84
def U84 := by have h := u_ok E84 D84 rfl; simp only [D84, pA, Nat.reduceAdd] at h; exact h
def D87 := (CF.mk _ _ : type_of% (cTm Tryz.prog [] [] 1 Tryz.f87 (by cbv))) (by kernel_rfl)
def E87 := D87
def U87 := by have h := u_ok E87 D87 rfl; simp only [D87, pA, Nat.reduceAdd] at h; exact h
def D102 := (CF.mk _ _ : type_of% (cTm Tryz.prog [] [([1, 5, 8, 9, 10], 0)] 2 Tryz.f102 (by cbv))) (by kernel_rfl)
def E102 := D102
def U102 := by have h := u_ok E102 D102 rfl; simp only [D102, pA, Nat.reduceAdd] at h; exact h
def D103 := (CF.mk _ _ : type_of% (cTm Tryz.prog [3, 4000140] [([0, 3, 11, 12, 13], 1000000000)] 1 Tryz.f103 (by cbv))) (by kernel_rfl)
def E103 := D103
def U103 := by have h := u_ok E103 D103 rfl; simp only [D103, pA, Nat.reduceAdd] at h; exact h
def D119 := (CF.mk _ _ : type_of% (cTm Tryz.prog [4000075, 1000149, 1000103] [] 1 Tryz.f119 (by cbv))) (by kernel_rfl)
def E119 := D119
def U119 := by have h := u_ok E119 D119 rfl; simp only [D119, pA, Nat.reduceAdd] at h; exact h
def D121 := (CF.mk _ _ : type_of% (cTm Tryz.prog [] [] 2 Tryz.f121 (by cbv))) (by kernel_rfl)
def E121 := D121
def U121 := by have h := u_ok E121 D121 rfl; simp only [D121, pA, Nat.reduceAdd] at h; exact h
def D122 := (CF.mk _ _ : type_of% (cTm Tryz.prog [] [] 2 Tryz.f122 (by cbv))) (by kernel_rfl)
def E122 := D122
def U122 := by have h := u_ok E122 D122 rfl; simp only [D122, pA, Nat.reduceAdd] at h; exact h
def D149 := (CF.mk _ _ : type_of% (cTm Tryz.prog [] [] 1 Tryz.f149 (by cbv))) (by kernel_rfl)
def E149 := D149
def U149 := by have h := u_ok E149 D149 rfl; simp only [D149, pA, Nat.reduceAdd] at h; exact h
def D150 := (CF.mk _ _ : type_of% (cTm Tryz.prog [] [] 1 Tryz.f150 (by cbv))) (by kernel_rfl)
def E150 := D150
def U150 := by have h := u_ok E150 D150 rfl; simp only [D150, pA, Nat.reduceAdd] at h; exact h
def D151 := (CF.mk _ _ : type_of% (cTm Tryz.prog [] [] 2 Tryz.f151 (by cbv))) (by kernel_rfl)
def E151 := D151
def U151 := by have h := u_ok E151 D151 rfl; simp only [D151, pA, Nat.reduceAdd] at h; exact h
def D173 := (CF.mk _ _ : type_of% (cTm Tryz.prog [] [([0, 1, 2, 7, 10, 11, 12], 0)] 3 Tryz.f173 (by cbv))) (by kernel_rfl)
def E173 := D173
def U173 := by have h := u_ok E173 D173 rfl; simp only [D173, pA, Nat.reduceAdd] at h; exact h
def D174 := (CF.mk _ _ : type_of% (cTm Tryz.prog [] [] 1 Tryz.f174 (by cbv))) (by kernel_rfl)
def E174 := D174
def U174 := by have h := u_ok E174 D174 rfl; simp only [D174, pA, Nat.reduceAdd] at h; exact h
def D175 := (CF.mk _ _ : type_of% (cTm Tryz.prog [] [] 2 Tryz.f175 (by cbv))) (by kernel_rfl)
def E175 := D175
def U175 := by have h := u_ok E175 D175 rfl; simp only [D175, pA, Nat.reduceAdd] at h; exact h
def D189 := (CF.mk _ _ : type_of% (cTm Tryz.prog [] [] 2 Tryz.f189 (by cbv))) (by kernel_rfl)
def E189 := D189
def U189 := by have h := u_ok E189 D189 rfl; simp only [D189, pA, Nat.reduceAdd] at h; exact h
def D190 := (CF.mk _ _ : type_of% (cTm Tryz.prog [] [] 1 Tryz.f190 (by cbv))) (by kernel_rfl)
def E190 := D190
def U190 := by have h := u_ok E190 D190 rfl; simp only [D190, pA, Nat.reduceAdd] at h; exact h
end Go.Proofs.YtdgpiobmncohjaaGreatDoor.Aw
