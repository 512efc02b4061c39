/-
  Lists of pages: a part turned about; which of two pages comes first.
-/
import Derived.Test.YtklniadgdbjcpaaPSwap
import Derived.Test.YtklniadgdbjcpaaPRoot3
set_option linter.unusedSimpArgs false
set_option linter.unusedVariables false
namespace Go.Proofs.Ytklniadgdbjcpaa.Aw
open Go.RowKit

theorem rotate_i {ob : List AObj} {o : Nat} {P X Y Q : List Fd} {N : Nat} {g : PV} (hN : N = (P ++ (X ++ (Y ++ Q))).length) (hl : N ≤ 1000000) (ho : ob[o]? = some (lF (P ++ (X ++ (Y ++ Q))))) (hX : X ≠ []) (hY : Y ≠ [])
    (hg : ∃ f, g = .fn (.func f) [] []) {a m b : Int} (ha : a = (P.length : Int)) (hm : m = ((P.length + X.length : Nat) : Int)) (hb : b = ((P.length + X.length + Y.length : Nat) : Int)) :
    ICall Try.prog 54 [.osl o 0 N, .int .i64 a, .int .i64 m, .int .i64 b, g] ob fun r ob' => r = .tup [] ∧ ob' = ob.set o (lF (P ++ (Y ++ (X ++ Q)))) := by
  obtain ⟨gf, rfl⟩ := hg
  subst ha hm hb
  refine icall_dr Try.func54 comp_slices_rotateCmpFunc_api_Found ?_
  have hlen : (P ++ (X ++ (Y ++ Q))).length = P.length + (X.length + (Y.length + Q.length)) := by simp
  have w1 : IntKind.i64.wrap (((P.length + X.length : Nat) : Int) - (P.length : Int)) = (X.length : Int) := by rw [wrapI (by omega) (by omega)]; omega
  have w2 : IntKind.i64.wrap (((P.length + X.length + Y.length : Nat) : Int) - ((P.length + X.length : Nat) : Int)) = (Y.length : Int) := by rw [wrapI (by omega) (by omega)]; omega
  simp (config := {maxSteps := 4000000}) only [U_slices_rotateCmpFunc_api_Found, w1, w2, reduceIte, reduceCtorEq, Nat.reduceEqDiff, Nat.reduceAdd, Int.reduceLT, Int.reduceLE, Int.reduceNeg, Int.reduceEq, Nat.reduceLT, Nat.reduceSub, Nat.reduceMul, Nat.reduceBEq, Nat.reduceLeDiff, Int.reduceBEq, Int.reduceBNe, Int.reduceToNat, ne_eq, implies_true, bA]
  obtain ⟨T, hT⟩ : ∃ T, P ++ (Y ++ (X ++ Q)) = T := ⟨_, rfl⟩
  obtain ⟨M, hM⟩ : ∃ M, P.length + X.length = M := ⟨_, rfl⟩
  rw [hT, hM]
  refine loopF (fun s : List Fd × List Fd × List Fd × List Fd => ⟨ofL [(0, .osl o 0 N), (2, .int .i64 (M : Int)), (4, .fn (.func gf) [] []), (10, .int .i64 (s.2.1.length : Int)), (11, .int .i64 (s.2.2.1.length : Int))],
    ob.set o (lF (s.1 ++ (s.2.1 ++ (s.2.2.1 ++ s.2.2.2))))⟩) (fun s => s.2.1 ≠ [] ∧ s.2.2.1 ≠ [] ∧ s.1.length + s.2.1.length = M ∧ s.1 ++ (s.2.2.1 ++ (s.2.1 ++ s.2.2.2)) = T ∧ (s.1 ++ (s.2.1 ++ (s.2.2.1 ++ s.2.2.2))).length = N)
    (fun s => s.2.1.length + s.2.2.1.length) (P, X, Y, Q) ?_ ⟨hX, hY, hM, hT, hN.symm⟩ ?_
  · simp (config := {maxSteps := 4000000}) only [U_slices_rotateCmpFunc_api_Found, reduceIte, reduceCtorEq, Nat.reduceEqDiff, Nat.reduceAdd, Int.reduceLT, Int.reduceLE, Int.reduceNeg, Int.reduceEq, Nat.reduceLT, Nat.reduceSub, Nat.reduceMul, Nat.reduceBEq, Nat.reduceLeDiff, Int.reduceBEq, Int.reduceBNe, Int.reduceToNat, ne_eq, implies_true, bA]
    simp [set_self ho]
  · rintro ⟨P, X, Y, Q⟩ ⟨hX, hY, hM, hT, hNN⟩
    simp only at hX hY hM hT hNN ⊢
    have hX1 : 0 < X.length := List.length_pos_iff.2 hX
    have hY1 : 0 < Y.length := List.length_pos_iff.2 hY
    have hlen : N = P.length + (X.length + (Y.length + Q.length)) := by rw [← hNN]; simp
    have ho2 : (ob.set o (lF (P ++ (X ++ (Y ++ Q)))))[o]? = some (lF (P ++ (X ++ (Y ++ Q)))) := set_get ho
    have wa : IntKind.i64.wrap ((M : Int) - (X.length : Int)) = (P.length : Int) := by rw [wrapI (by omega) (by omega)]; omega
    by_cases hne : X.length = Y.length
    · have d : ((X.length : Int) != (Y.length : Int)) = false := by simp [hne]
      simp (config := {maxSteps := 4000000}) only [U_slices_rotateCmpFunc_api_Found, d, wa, reduceIte, reduceCtorEq, Nat.reduceEqDiff, Nat.reduceAdd, Int.reduceLT, Int.reduceLE, Int.reduceNeg, Int.reduceEq, Nat.reduceLT, Nat.reduceSub, Nat.reduceMul, Nat.reduceBEq, Nat.reduceLeDiff, Int.reduceBEq, Int.reduceBNe, Int.reduceToNat, ne_eq, implies_true, bA]
      refine callM (swap_i (P := P) (X := X) (M := []) (Y := Y) (Q := Q) (by simpa using hNN.symm) hl (by simpa using ho2) hne ⟨_, rfl⟩ rfl (by simp [hM]) rfl) ?_
      rintro r ob' ⟨rfl, rfl⟩
      simp (config := {maxSteps := 4000000}) only [U_slices_rotateCmpFunc_api_Found, reduceIte, reduceCtorEq, Nat.reduceEqDiff, Nat.reduceAdd, Int.reduceLT, Int.reduceLE, Int.reduceNeg, Int.reduceEq, Nat.reduceLT, Nat.reduceSub, Nat.reduceMul, Nat.reduceBEq, Nat.reduceLeDiff, Int.reduceBEq, Int.reduceBNe, Int.reduceToNat, ne_eq, implies_true, bA]
      refine ⟨_, rfl, by simp, ?_⟩
      simp [List.set_set, ← hT]
    · have d : ((X.length : Int) != (Y.length : Int)) = true := by simp; omega
      by_cases hgt : Y.length < X.length
      · have d2 : decide ((Y.length : Int) < (X.length : Int)) = true := by simp; omega
        obtain ⟨X1, X2, hX12, hx1⟩ := cut_at X Y.length (by omega)
        have hX2 : X.length = X1.length + X2.length := by rw [hX12]; simp
        have wb : IntKind.i64.wrap ((X.length : Int) - (Y.length : Int)) = (X2.length : Int) := by rw [wrapI (by omega) (by omega)]; omega
        simp (config := {maxSteps := 4000000}) only [U_slices_rotateCmpFunc_api_Found, d, d2, wa, reduceIte, reduceCtorEq, Nat.reduceEqDiff, Nat.reduceAdd, Int.reduceLT, Int.reduceLE, Int.reduceNeg, Int.reduceEq, Nat.reduceLT, Nat.reduceSub, Nat.reduceMul, Nat.reduceBEq, Nat.reduceLeDiff, Int.reduceBEq, Int.reduceBNe, Int.reduceToNat, ne_eq, implies_true, bA]
        refine callM (swap_i (P := P) (X := X1) (M := X2) (Y := Y) (Q := Q) (by rw [← hNN, hX12]; simp) hl (by rw [ho2, hX12]; simp) hx1 ⟨_, rfl⟩ rfl (by omega) (by omega)) ?_
        rintro r ob' ⟨rfl, rfl⟩
        simp (config := {maxSteps := 4000000}) only [U_slices_rotateCmpFunc_api_Found, wb, List.set_set, reduceIte, reduceCtorEq, Nat.reduceEqDiff, Nat.reduceAdd, Int.reduceLT, Int.reduceLE, Int.reduceNeg, Int.reduceEq, Nat.reduceLT, Nat.reduceSub, Nat.reduceMul, Nat.reduceBEq, Nat.reduceLeDiff, Int.reduceBEq, Int.reduceBNe, Int.reduceToNat, ne_eq, implies_true, bA]
        refine ⟨(P ++ Y, X2, X1, Q), ?_, ⟨?_, ?_, ?_, ?_, ?_⟩, ?_⟩
        · simp [hx1]
        · intro h; simp only at h; rw [h] at hX2; simp at hX2; omega
        · intro h; simp only at h; rw [h] at hx1; simp at hx1; omega
        · simp only [List.length_append]; omega
        · rw [← hT, hX12]; simp
        · simp only [List.length_append]; omega
        · simp only; omega
      · have d2 : decide ((Y.length : Int) < (X.length : Int)) = false := by simp; omega
        obtain ⟨Y1, Y2, hY12, hy1⟩ := cut_at Y (Y.length - X.length) (by omega)
        have hY2 : Y.length = Y1.length + Y2.length := by rw [hY12]; simp
        have wb : IntKind.i64.wrap ((Y.length : Int) - (X.length : Int)) = (Y1.length : Int) := by rw [wrapI (by omega) (by omega)]; omega
        have wc : IntKind.i64.wrap ((M : Int) + (Y.length : Int)) = ((M + Y.length : Nat) : Int) := by rw [wrapI (by omega) (by omega)]; omega
        have wd : IntKind.i64.wrap (((M + Y.length : Nat) : Int) - (X.length : Int)) = ((P.length + X.length + Y1.length : Nat) : Int) := by rw [wrapI (by omega) (by omega)]; omega
        simp (config := {maxSteps := 4000000}) only [U_slices_rotateCmpFunc_api_Found, d, d2, wa, wc, wd, reduceIte, reduceCtorEq, Nat.reduceEqDiff, Nat.reduceAdd, Int.reduceLT, Int.reduceLE, Int.reduceNeg, Int.reduceEq, Nat.reduceLT, Nat.reduceSub, Nat.reduceMul, Nat.reduceBEq, Nat.reduceLeDiff, Int.reduceBEq, Int.reduceBNe, Int.reduceToNat, ne_eq, implies_true, bA]
        refine callM (swap_i (P := P) (X := X) (M := Y1) (Y := Y2) (Q := Q) (by rw [← hNN, hY12]; simp) hl (by rw [ho2, hY12]; simp) (by omega) ⟨_, rfl⟩ rfl rfl rfl) ?_
        rintro r ob' ⟨rfl, rfl⟩
        simp (config := {maxSteps := 4000000}) only [U_slices_rotateCmpFunc_api_Found, wb, List.set_set, reduceIte, reduceCtorEq, Nat.reduceEqDiff, Nat.reduceAdd, Int.reduceLT, Int.reduceLE, Int.reduceNeg, Int.reduceEq, Nat.reduceLT, Nat.reduceSub, Nat.reduceMul, Nat.reduceBEq, Nat.reduceLeDiff, Int.reduceBEq, Int.reduceBNe, Int.reduceToNat, ne_eq, implies_true, bA]
        refine ⟨(P, Y2, Y1, X ++ Q), ?_, ⟨?_, ?_, ?_, ?_, ?_⟩, ?_⟩
        · have e1 : X.length = Y2.length := by omega
          simp [e1]
        · intro h; simp only at h; rw [h] at hY2; simp at hY2; omega
        · intro h; simp only at h; rw [h] at hy1; simp at hy1; omega
        · simp only; omega
        · rw [← hT, hY12]; simp
        · simp only [List.length_append]; omega
        · simp only; omega

end Go.Proofs.Ytklniadgdbjcpaa.Aw
