/-
 The functions of the seat, translated: what the translation comes to. Each function by its number.
-/
import Derived.Test.YtdgpiobmncohjaaGreatDoorKap
import Derived.Test.YtdgpiobmncohjaaGreatDoorProg
set_option linter.all false
set_option maxRecDepth 100000
set_option maxHeartbeats 4000000
namespace Go.Proofs.YtdgpiobmncohjaaGreatDoor.Aw
open Go.RowKit
def D100 := (CF.mk _ _ : type_of% (cTm Tryz.prog [] [] 1 Tryz.f100 (by cbv))) (by kernel_rfl)
def E100 := D100
def U100 := by have h := u_ok E100 D100 rfl; simp only [D100, pA, Nat.reduceAdd] at h; exact h
def D101 := (CF.mk _ _ : type_of% (cTm Tryz.prog [] [] 1 Tryz.f101 (by cbv))) (by kernel_rfl)
def E101 := D101
def U101 := by have h := u_ok E101 D101 rfl; simp only [D101, pA, Nat.reduceAdd] at h; exact h
def D132 := (CF.mk _ _ : type_of% (cTm Tryz.prog [] [] 1 Tryz.f132 (by cbv))) (by kernel_rfl)
def E132 := D132
def U132 := by have h := u_ok E132 D132 rfl; simp only [D132, pA, Nat.reduceAdd] at h; exact h
def D133 := (CF.mk _ _ : type_of% (cTm Tryz.prog [] [([1, 2, 8, 18, 19, 20], 0)] 3 Tryz.f133 (by cbv))) (by kernel_rfl)
def E133 := D133
def U133 := by have h := u_ok E133 D133 rfl; simp only [D133, pA, Nat.reduceAdd] at h; exact h
def D134 := (CF.mk _ _ : type_of% (cTm Tryz.prog [] [] 0 Tryz.f134 (by cbv))) (by kernel_rfl)
def E134 := D134
def U134 := by have h := u_ok E134 D134 rfl; simp only [D134, pA, Nat.reduceAdd] at h; exact h
def D135 := (CF.mk _ _ : type_of% (cTm Tryz.prog [] [] 1 Tryz.f135 (by cbv))) (by kernel_rfl)
def E135 := D135
def U135 := by have h := u_ok E135 D135 rfl; simp only [D135, pA, Nat.reduceAdd] at h; exact h
def D136 := (CF.mk _ _ : type_of% (cTm Tryz.prog [] [([0, 13, 14, 15], 0)] 1 Tryz.f136 (by cbv))) (by kernel_rfl)
def E136 := D136
def U136 := by have h := u_ok E136 D136 rfl; simp only [D136, pA, Nat.reduceAdd] at h; exact h
def D137 := (CF.mk _ _ : type_of% (cTm Tryz.prog [] [([1, 2, 8, 18, 19, 20], 0)] 3 Tryz.f137 (by cbv))) (by kernel_rfl)
def E137 := D137
def U137 := by have h := u_ok E137 D137 rfl; simp only [D137, pA, Nat.reduceAdd] at h; exact h
def D138 := (CF.mk _ _ : type_of% (cTm Tryz.prog [] [] 0 Tryz.f138 (by cbv))) (by kernel_rfl)
def E138 := D138
def U138 := by have h := u_ok E138 D138 rfl; simp only [D138, pA, Nat.reduceAdd] at h; exact h
def D139 := (CF.mk _ _ : type_of% (cTm Tryz.prog [] [] 1 Tryz.f139 (by cbv))) (by kernel_rfl)
def E139 := D139
def U139 := by have h := u_ok E139 D139 rfl; simp only [D139, pA, Nat.reduceAdd] at h; exact h
def D142 := (CF.mk _ _ : type_of% (cTm Tryz.prog [] [] 1 Tryz.f142 (by cbv))) (by kernel_rfl)
def E142 := D142
def U142 := by have h := u_ok E142 D142 rfl; simp only [D142, pA, Nat.reduceAdd] at h; exact h
def D144 := (CF.mk _ _ : type_of% (cTm Tryz.prog [] [] 1 Tryz.f144 (by cbv))) (by kernel_rfl)
def E144 := D144
def U144 := by have h := u_ok E144 D144 rfl; simp only [D144, pA, Nat.reduceAdd] at h; exact h
def D168 := (CF.mk _ _ : type_of% (cTm Tryz.prog [] [] 2 Tryz.f168 (by cbv))) (by kernel_rfl)
def E168 := D168
def U168 := by have h := u_ok E168 D168 rfl; simp only [D168, pA, Nat.reduceAdd] at h; exact h
def D169 := (CF.mk _ _ : type_of% (cTm Tryz.prog [] [] 1 Tryz.f169 (by cbv))) (by kernel_rfl)
def E169 := D169
def U169 := by have h := u_ok E169 D169 rfl; simp only [D169, pA, Nat.reduceAdd] at h; exact h
def D170 := (CF.mk _ _ : type_of% (cTm Tryz.prog [] [] 2 Tryz.f170 (by cbv))) (by kernel_rfl)
def E170 := D170
def U170 := by have h := u_ok E170 D170 rfl; simp only [D170, pA, Nat.reduceAdd] at h; exact h
def D171 := (CF.mk _ _ : type_of% (cTm Tryz.prog [] [] 2 Tryz.f171 (by cbv))) (by kernel_rfl)
def E171 := D171
def U171 := by have h := u_ok E171 D171 rfl; simp only [D171, pA, Nat.reduceAdd] at h; exact h
def D188 := (CF.mk _ _ : type_of% (cTm Tryz.prog [] [([0, 1, 7, 8], 0)] 2 Tryz.f188 (by cbv))) (by kernel_rfl)
def E188 := D188
def U188 := by have h := u_ok E188 D188 rfl; simp only [D188, pA, Nat.reduceAdd] at h; exact h
end Go.Proofs.YtdgpiobmncohjaaGreatDoor.Aw
