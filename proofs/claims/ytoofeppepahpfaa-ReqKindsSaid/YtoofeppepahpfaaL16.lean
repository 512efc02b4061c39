/-
  Statements of layer 16, as contracts: each returns true.
-/
import Derived.Test.YtoofeppepahpfaaPReq5
import Derived.Test.YtoofeppepahpfaaCode2
set_option linter.unusedSimpArgs false
set_option linter.unusedVariables false
namespace Go.Proofs.Ytoofeppepahpfaa.Aw
open Go.RowKit

def nmL : List (List UInt8) := [[99, 114, 101, 97, 116, 101], [114, 101, 115, 105, 122, 101], [100, 101, 108, 101, 116, 101], [119, 114, 105, 116, 101], [122, 101, 114, 111], [116, 114, 105, 109], [114, 101, 97, 100], [102, 108, 117, 115, 104], [105, 110, 102, 111], [108, 105, 115, 116]]
def nameS (k : Int) : List UInt8 := if k < 1 ∨ 10 < k then [63] else nmL.getD (k - 1).toNat []
theorem name_1 : PCall Try.prog 9 [.int .i64 1] (.str [99, 114, 101, 97, 116, 101]) := by
  refine pcall_go Try.func9 comp_req_Name ?_
  have g : idxaV none 1 11 (.agg [.str [], .str [99, 114, 101, 97, 116, 101], .str [114, 101, 115, 105, 122, 101], .str [100, 101, 108, 101, 116, 101], .str [119, 114, 105, 116, 101], .str [122, 101, 114, 111], .str [116, 114, 105, 109], .str [114, 101, 97, 100], .str [102, 108, 117, 115, 104], .str [105, 110, 102, 111], .str [108, 105, 115, 116]]) (.int .i64 1) = some (.str [99, 114, 101, 97, 116, 101]) := rfl
  simp (config := {maxSteps := 4000000}) only [U_req_Name, g, reduceIte, reduceCtorEq, Nat.reduceEqDiff, Nat.reduceAdd, Int.reduceLT, Int.reduceLE, Int.reduceNeg, Int.reduceEq, Nat.reduceLT, Nat.reduceSub, Nat.reduceMul, Nat.reduceBEq, Nat.reduceLeDiff, Int.reduceBEq, Int.reduceBNe, Int.reduceToNat, ne_eq, implies_true, bA]
theorem name_2 : PCall Try.prog 9 [.int .i64 2] (.str [114, 101, 115, 105, 122, 101]) := by
  refine pcall_go Try.func9 comp_req_Name ?_
  have g : idxaV none 1 11 (.agg [.str [], .str [99, 114, 101, 97, 116, 101], .str [114, 101, 115, 105, 122, 101], .str [100, 101, 108, 101, 116, 101], .str [119, 114, 105, 116, 101], .str [122, 101, 114, 111], .str [116, 114, 105, 109], .str [114, 101, 97, 100], .str [102, 108, 117, 115, 104], .str [105, 110, 102, 111], .str [108, 105, 115, 116]]) (.int .i64 2) = some (.str [114, 101, 115, 105, 122, 101]) := rfl
  simp (config := {maxSteps := 4000000}) only [U_req_Name, g, reduceIte, reduceCtorEq, Nat.reduceEqDiff, Nat.reduceAdd, Int.reduceLT, Int.reduceLE, Int.reduceNeg, Int.reduceEq, Nat.reduceLT, Nat.reduceSub, Nat.reduceMul, Nat.reduceBEq, Nat.reduceLeDiff, Int.reduceBEq, Int.reduceBNe, Int.reduceToNat, ne_eq, implies_true, bA]
theorem name_3 : PCall Try.prog 9 [.int .i64 3] (.str [100, 101, 108, 101, 116, 101]) := by
  refine pcall_go Try.func9 comp_req_Name ?_
  have g : idxaV none 1 11 (.agg [.str [], .str [99, 114, 101, 97, 116, 101], .str [114, 101, 115, 105, 122, 101], .str [100, 101, 108, 101, 116, 101], .str [119, 114, 105, 116, 101], .str [122, 101, 114, 111], .str [116, 114, 105, 109], .str [114, 101, 97, 100], .str [102, 108, 117, 115, 104], .str [105, 110, 102, 111], .str [108, 105, 115, 116]]) (.int .i64 3) = some (.str [100, 101, 108, 101, 116, 101]) := rfl
  simp (config := {maxSteps := 4000000}) only [U_req_Name, g, reduceIte, reduceCtorEq, Nat.reduceEqDiff, Nat.reduceAdd, Int.reduceLT, Int.reduceLE, Int.reduceNeg, Int.reduceEq, Nat.reduceLT, Nat.reduceSub, Nat.reduceMul, Nat.reduceBEq, Nat.reduceLeDiff, Int.reduceBEq, Int.reduceBNe, Int.reduceToNat, ne_eq, implies_true, bA]
theorem name_4 : PCall Try.prog 9 [.int .i64 4] (.str [119, 114, 105, 116, 101]) := by
  refine pcall_go Try.func9 comp_req_Name ?_
  have g : idxaV none 1 11 (.agg [.str [], .str [99, 114, 101, 97, 116, 101], .str [114, 101, 115, 105, 122, 101], .str [100, 101, 108, 101, 116, 101], .str [119, 114, 105, 116, 101], .str [122, 101, 114, 111], .str [116, 114, 105, 109], .str [114, 101, 97, 100], .str [102, 108, 117, 115, 104], .str [105, 110, 102, 111], .str [108, 105, 115, 116]]) (.int .i64 4) = some (.str [119, 114, 105, 116, 101]) := rfl
  simp (config := {maxSteps := 4000000}) only [U_req_Name, g, reduceIte, reduceCtorEq, Nat.reduceEqDiff, Nat.reduceAdd, Int.reduceLT, Int.reduceLE, Int.reduceNeg, Int.reduceEq, Nat.reduceLT, Nat.reduceSub, Nat.reduceMul, Nat.reduceBEq, Nat.reduceLeDiff, Int.reduceBEq, Int.reduceBNe, Int.reduceToNat, ne_eq, implies_true, bA]
theorem name_5 : PCall Try.prog 9 [.int .i64 5] (.str [122, 101, 114, 111]) := by
  refine pcall_go Try.func9 comp_req_Name ?_
  have g : idxaV none 1 11 (.agg [.str [], .str [99, 114, 101, 97, 116, 101], .str [114, 101, 115, 105, 122, 101], .str [100, 101, 108, 101, 116, 101], .str [119, 114, 105, 116, 101], .str [122, 101, 114, 111], .str [116, 114, 105, 109], .str [114, 101, 97, 100], .str [102, 108, 117, 115, 104], .str [105, 110, 102, 111], .str [108, 105, 115, 116]]) (.int .i64 5) = some (.str [122, 101, 114, 111]) := rfl
  simp (config := {maxSteps := 4000000}) only [U_req_Name, g, reduceIte, reduceCtorEq, Nat.reduceEqDiff, Nat.reduceAdd, Int.reduceLT, Int.reduceLE, Int.reduceNeg, Int.reduceEq, Nat.reduceLT, Nat.reduceSub, Nat.reduceMul, Nat.reduceBEq, Nat.reduceLeDiff, Int.reduceBEq, Int.reduceBNe, Int.reduceToNat, ne_eq, implies_true, bA]
theorem name_6 : PCall Try.prog 9 [.int .i64 6] (.str [116, 114, 105, 109]) := by
  refine pcall_go Try.func9 comp_req_Name ?_
  have g : idxaV none 1 11 (.agg [.str [], .str [99, 114, 101, 97, 116, 101], .str [114, 101, 115, 105, 122, 101], .str [100, 101, 108, 101, 116, 101], .str [119, 114, 105, 116, 101], .str [122, 101, 114, 111], .str [116, 114, 105, 109], .str [114, 101, 97, 100], .str [102, 108, 117, 115, 104], .str [105, 110, 102, 111], .str [108, 105, 115, 116]]) (.int .i64 6) = some (.str [116, 114, 105, 109]) := rfl
  simp (config := {maxSteps := 4000000}) only [U_req_Name, g, reduceIte, reduceCtorEq, Nat.reduceEqDiff, Nat.reduceAdd, Int.reduceLT, Int.reduceLE, Int.reduceNeg, Int.reduceEq, Nat.reduceLT, Nat.reduceSub, Nat.reduceMul, Nat.reduceBEq, Nat.reduceLeDiff, Int.reduceBEq, Int.reduceBNe, Int.reduceToNat, ne_eq, implies_true, bA]
theorem name_7 : PCall Try.prog 9 [.int .i64 7] (.str [114, 101, 97, 100]) := by
  refine pcall_go Try.func9 comp_req_Name ?_
  have g : idxaV none 1 11 (.agg [.str [], .str [99, 114, 101, 97, 116, 101], .str [114, 101, 115, 105, 122, 101], .str [100, 101, 108, 101, 116, 101], .str [119, 114, 105, 116, 101], .str [122, 101, 114, 111], .str [116, 114, 105, 109], .str [114, 101, 97, 100], .str [102, 108, 117, 115, 104], .str [105, 110, 102, 111], .str [108, 105, 115, 116]]) (.int .i64 7) = some (.str [114, 101, 97, 100]) := rfl
  simp (config := {maxSteps := 4000000}) only [U_req_Name, g, reduceIte, reduceCtorEq, Nat.reduceEqDiff, Nat.reduceAdd, Int.reduceLT, Int.reduceLE, Int.reduceNeg, Int.reduceEq, Nat.reduceLT, Nat.reduceSub, Nat.reduceMul, Nat.reduceBEq, Nat.reduceLeDiff, Int.reduceBEq, Int.reduceBNe, Int.reduceToNat, ne_eq, implies_true, bA]
theorem name_8 : PCall Try.prog 9 [.int .i64 8] (.str [102, 108, 117, 115, 104]) := by
  refine pcall_go Try.func9 comp_req_Name ?_
  have g : idxaV none 1 11 (.agg [.str [], .str [99, 114, 101, 97, 116, 101], .str [114, 101, 115, 105, 122, 101], .str [100, 101, 108, 101, 116, 101], .str [119, 114, 105, 116, 101], .str [122, 101, 114, 111], .str [116, 114, 105, 109], .str [114, 101, 97, 100], .str [102, 108, 117, 115, 104], .str [105, 110, 102, 111], .str [108, 105, 115, 116]]) (.int .i64 8) = some (.str [102, 108, 117, 115, 104]) := rfl
  simp (config := {maxSteps := 4000000}) only [U_req_Name, g, reduceIte, reduceCtorEq, Nat.reduceEqDiff, Nat.reduceAdd, Int.reduceLT, Int.reduceLE, Int.reduceNeg, Int.reduceEq, Nat.reduceLT, Nat.reduceSub, Nat.reduceMul, Nat.reduceBEq, Nat.reduceLeDiff, Int.reduceBEq, Int.reduceBNe, Int.reduceToNat, ne_eq, implies_true, bA]
theorem name_9 : PCall Try.prog 9 [.int .i64 9] (.str [105, 110, 102, 111]) := by
  refine pcall_go Try.func9 comp_req_Name ?_
  have g : idxaV none 1 11 (.agg [.str [], .str [99, 114, 101, 97, 116, 101], .str [114, 101, 115, 105, 122, 101], .str [100, 101, 108, 101, 116, 101], .str [119, 114, 105, 116, 101], .str [122, 101, 114, 111], .str [116, 114, 105, 109], .str [114, 101, 97, 100], .str [102, 108, 117, 115, 104], .str [105, 110, 102, 111], .str [108, 105, 115, 116]]) (.int .i64 9) = some (.str [105, 110, 102, 111]) := rfl
  simp (config := {maxSteps := 4000000}) only [U_req_Name, g, reduceIte, reduceCtorEq, Nat.reduceEqDiff, Nat.reduceAdd, Int.reduceLT, Int.reduceLE, Int.reduceNeg, Int.reduceEq, Nat.reduceLT, Nat.reduceSub, Nat.reduceMul, Nat.reduceBEq, Nat.reduceLeDiff, Int.reduceBEq, Int.reduceBNe, Int.reduceToNat, ne_eq, implies_true, bA]
theorem name_10 : PCall Try.prog 9 [.int .i64 10] (.str [108, 105, 115, 116]) := by
  refine pcall_go Try.func9 comp_req_Name ?_
  have g : idxaV none 1 11 (.agg [.str [], .str [99, 114, 101, 97, 116, 101], .str [114, 101, 115, 105, 122, 101], .str [100, 101, 108, 101, 116, 101], .str [119, 114, 105, 116, 101], .str [122, 101, 114, 111], .str [116, 114, 105, 109], .str [114, 101, 97, 100], .str [102, 108, 117, 115, 104], .str [105, 110, 102, 111], .str [108, 105, 115, 116]]) (.int .i64 10) = some (.str [108, 105, 115, 116]) := rfl
  simp (config := {maxSteps := 4000000}) only [U_req_Name, g, reduceIte, reduceCtorEq, Nat.reduceEqDiff, Nat.reduceAdd, Int.reduceLT, Int.reduceLE, Int.reduceNeg, Int.reduceEq, Nat.reduceLT, Nat.reduceSub, Nat.reduceMul, Nat.reduceBEq, Nat.reduceLeDiff, Int.reduceBEq, Int.reduceBNe, Int.reduceToNat, ne_eq, implies_true, bA]
theorem name_spec (k : Int) : PCall Try.prog 9 [.int .i64 k] (.str (nameS k)) := by
  by_cases h1 : k < 1
  · refine pcall_go Try.func9 comp_req_Name ?_
    have d1 := decide_eq_true h1
    rw [nameS, if_pos (.inl h1)]
    simp (config := {maxSteps := 4000000}) only [U_req_Name, d1, reduceIte, reduceCtorEq, Nat.reduceEqDiff, Nat.reduceAdd, Int.reduceLT, Int.reduceLE, Int.reduceNeg, Int.reduceEq, Nat.reduceLT, Nat.reduceSub, Nat.reduceMul, Nat.reduceBEq, Nat.reduceLeDiff, Int.reduceBEq, Int.reduceBNe, Int.reduceToNat, ne_eq, implies_true, bA]
  · by_cases h2 : 10 < k
    · refine pcall_go Try.func9 comp_req_Name ?_
      have d1 := decide_eq_false h1
      have d2 := decide_eq_true h2
      rw [nameS, if_pos (.inr h2)]
      simp (config := {maxSteps := 4000000}) only [U_req_Name, d1, d2, reduceIte, reduceCtorEq, Nat.reduceEqDiff, Nat.reduceAdd, Int.reduceLT, Int.reduceLE, Int.reduceNeg, Int.reduceEq, Nat.reduceLT, Nat.reduceSub, Nat.reduceMul, Nat.reduceBEq, Nat.reduceLeDiff, Int.reduceBEq, Int.reduceBNe, Int.reduceToNat, ne_eq, implies_true, bA]
    · rcases (by omega : k = 1 ∨ k = 2 ∨ k = 3 ∨ k = 4 ∨ k = 5 ∨ k = 6 ∨ k = 7 ∨ k = 8 ∨ k = 9 ∨ k = 10) with rfl | rfl | rfl | rfl | rfl | rfl | rfl | rfl | rfl | rfl
      · exact name_1
      · exact name_2
      · exact name_3
      · exact name_4
      · exact name_5
      · exact name_6
      · exact name_7
      · exact name_8
      · exact name_9
      · exact name_10
def chS (k : Int) : Bool := decide (1 ≤ k) && decide (k ≤ 6)
theorem changes_spec (k : Int) : PCall Try.prog 10 [.int .i64 k] (.bool (chS k)) := by
  refine pcall_go Try.func10 comp_req_Changes ?_
  by_cases h1 : 1 ≤ k
  · have d1 := decide_eq_true h1
    simp (config := {maxSteps := 4000000}) only [U_req_Changes, d1, reduceIte, reduceCtorEq, Nat.reduceEqDiff, Nat.reduceAdd, Int.reduceLT, Int.reduceLE, Int.reduceNeg, Int.reduceEq, Nat.reduceLT, Nat.reduceSub, Nat.reduceMul, Nat.reduceBEq, Nat.reduceLeDiff, Int.reduceBEq, Int.reduceBNe, Int.reduceToNat, ne_eq, implies_true, bA]
    simp [chS, h1]
  · have d1 := decide_eq_false h1
    simp (config := {maxSteps := 4000000}) only [U_req_Changes, d1, reduceIte, reduceCtorEq, Nat.reduceEqDiff, Nat.reduceAdd, Int.reduceLT, Int.reduceLE, Int.reduceNeg, Int.reduceEq, Nat.reduceLT, Nat.reduceSub, Nat.reduceMul, Nat.reduceBEq, Nat.reduceLeDiff, Int.reduceBEq, Int.reduceBNe, Int.reduceToNat, ne_eq, implies_true, bA]
    simp [chS, h1]
theorem awake16_spec : PCall Try.prog 8 [] (.bool true) := by
  refine pcall_go Try.func8 comp_law16_awake ?_
  have hb : bodyR ⟨7, 1, 5, 2, []⟩ = [7, 1, 0, 0, 0, 5, 0, 0, 0, 2, 0, 0, 0, 0, 0] := by decide
  have hw : writeR ⟨7, 1, 5, 2, []⟩ = (sealS (bodyR ⟨7, 1, 5, 2, []⟩), 0) := by rw [writeR, if_pos (by decide)]
  have hl := seal_len (bodyR ⟨7, 1, 5, 2, []⟩)
  have ht : (sealS (bodyR ⟨7, 1, 5, 2, []⟩)).take 15 = bodyR ⟨7, 1, 5, 2, []⟩ := by rw [sealS]; exact List.take_left' (by rw [hb]; rfl)
  rw [hb] at hl ht hw
  simp (config := {maxSteps := 4000000}) only [U_law16_awake, reduceIte, reduceCtorEq, Nat.reduceEqDiff, Nat.reduceAdd, Int.reduceLT, Int.reduceLE, Int.reduceNeg, Int.reduceEq, Nat.reduceLT, Nat.reduceSub, Nat.reduceMul, Nat.reduceBEq, Nat.reduceLeDiff, Int.reduceBEq, Int.reduceBNe, Int.reduceToNat, ne_eq, implies_true, bA]
  refine callI (write_spec ⟨7, 1, 5, 2, []⟩ (by decide)) ?_
  rw [hw]
  generalize sealS [7, 1, 0, 0, 0, 5, 0, 0, 0, 2, 0, 0, 0, 0, 0] = S at *
  have hl' : S.length = 19 := hl
  have g1 : sstrV (.str S) (some none) (some (some 15)) = some (.str (S.take 15)) := sstrV_to (h := 15) (by omega)
  rw [ht] at g1
  simp (config := {maxSteps := 4000000}) only [U_law16_awake, hl', g1, reduceIte, reduceCtorEq, Nat.reduceEqDiff, Nat.reduceAdd, Int.reduceLT, Int.reduceLE, Int.reduceNeg, Int.reduceEq, Nat.reduceLT, Nat.reduceSub, Nat.reduceMul, Nat.reduceBEq, Nat.reduceLeDiff, Int.reduceBEq, Int.reduceBNe, Int.reduceToNat, ne_eq, implies_true, bA]
  refine callI name_7 ?_
  simp (config := {maxSteps := 4000000}) only [U_law16_awake, beq_self_eq_true, reduceIte, reduceCtorEq, Nat.reduceEqDiff, Nat.reduceAdd, Int.reduceLT, Int.reduceLE, Int.reduceNeg, Int.reduceEq, Nat.reduceLT, Nat.reduceSub, Nat.reduceMul, Nat.reduceBEq, Nat.reduceLeDiff, Int.reduceBEq, Int.reduceBNe, Int.reduceToNat, ne_eq, implies_true, bA]
  refine callI (changes_spec 6) ?_
  have hc : chS 6 = true := by decide
  simp (config := {maxSteps := 4000000}) only [U_law16_awake, hc, reduceIte, reduceCtorEq, Nat.reduceEqDiff, Nat.reduceAdd, Int.reduceLT, Int.reduceLE, Int.reduceNeg, Int.reduceEq, Nat.reduceLT, Nat.reduceSub, Nat.reduceMul, Nat.reduceBEq, Nat.reduceLeDiff, Int.reduceBEq, Int.reduceBNe, Int.reduceToNat, ne_eq, implies_true, bA]
theorem kinds_law (k : Int) : PCall Try.prog 3 [.int .i64 k] (.bool true) := by
  have hch : ∀ k : Int, (chS k == (decide (1 ≤ k) && decide (k ≤ 6))) = true := fun k => by rw [chS]; simp
  by_cases h1 : 1 ≤ k
  · by_cases h2 : k ≤ 10
    · refine pcall_go Try.func3 comp_law16_ReqKinds ?_
      have d1 := decide_eq_true h1
      have d2 := decide_eq_true h2
      obtain ⟨i, rfl⟩ : ∃ i : Nat, k = (i : Int) + 1 := ⟨(k - 1).toNat, by omega⟩
      have e1 : IntKind.i64.wrap ((i : Int) + 1 - 1) = (i : Int) := by rw [wrapI (by omega) (by omega)]; omega
      have hrow : ∀ ob fb, islV ob fb 1 (.slc [[.str [99, 114, 101, 97, 116, 101]], [.str [114, 101, 115, 105, 122, 101]], [.str [100, 101, 108, 101, 116, 101]], [.str [119, 114, 105, 116, 101]], [.str [122, 101, 114, 111]], [.str [116, 114, 105, 109]], [.str [114, 101, 97, 100]], [.str [102, 108, 117, 115, 104]], [.str [105, 110, 102, 111]], [.str [108, 105, 115, 116]]]) (.int .i64 (i : Int)) = some (.fptr [.str (nameS ((i : Int) + 1))]) := by
        intro ob fb
        rcases (by omega : i = 0 ∨ i = 1 ∨ i = 2 ∨ i = 3 ∨ i = 4 ∨ i = 5 ∨ i = 6 ∨ i = 7 ∨ i = 8 ∨ i = 9) with rfl | rfl | rfl | rfl | rfl | rfl | rfl | rfl | rfl | rfl <;> rfl
      simp (config := {maxSteps := 4000000}) only [U_law16_ReqKinds, d1, d2, e1, hrow, reduceIte, reduceCtorEq, Nat.reduceEqDiff, Nat.reduceAdd, Int.reduceLT, Int.reduceLE, Int.reduceNeg, Int.reduceEq, Nat.reduceLT, Nat.reduceSub, Nat.reduceMul, Nat.reduceBEq, Nat.reduceLeDiff, Int.reduceBEq, Int.reduceBNe, Int.reduceToNat, ne_eq, implies_true, bA]
      refine callI awake16_spec ?_
      simp (config := {maxSteps := 4000000}) only [U_law16_ReqKinds, reduceIte, reduceCtorEq, Nat.reduceEqDiff, Nat.reduceAdd, Int.reduceLT, Int.reduceLE, Int.reduceNeg, Int.reduceEq, Nat.reduceLT, Nat.reduceSub, Nat.reduceMul, Nat.reduceBEq, Nat.reduceLeDiff, Int.reduceBEq, Int.reduceBNe, Int.reduceToNat, ne_eq, implies_true, bA]
      refine callI (name_spec ((i : Int) + 1)) ?_
      simp (config := {maxSteps := 4000000}) only [U_law16_ReqKinds, beq_self_eq_true, reduceIte, reduceCtorEq, Nat.reduceEqDiff, Nat.reduceAdd, Int.reduceLT, Int.reduceLE, Int.reduceNeg, Int.reduceEq, Nat.reduceLT, Nat.reduceSub, Nat.reduceMul, Nat.reduceBEq, Nat.reduceLeDiff, Int.reduceBEq, Int.reduceBNe, Int.reduceToNat, ne_eq, implies_true, bA]
      refine callI (changes_spec ((i : Int) + 1)) ?_
      have hc := hch ((i : Int) + 1)
      rw [d1] at hc
      by_cases h6 : (i : Int) + 1 ≤ 6
      · have d6 := decide_eq_true h6
        rw [d6] at hc
        simp (config := {maxSteps := 4000000}) only [U_law16_ReqKinds, d1, d6, hc, reduceIte, reduceCtorEq, Nat.reduceEqDiff, Nat.reduceAdd, Int.reduceLT, Int.reduceLE, Int.reduceNeg, Int.reduceEq, Nat.reduceLT, Nat.reduceSub, Nat.reduceMul, Nat.reduceBEq, Nat.reduceLeDiff, Int.reduceBEq, Int.reduceBNe, Int.reduceToNat, ne_eq, implies_true, bA]
        all_goals first | rfl | simpa using hc
      · have d6 := decide_eq_false h6
        rw [d6] at hc
        simp (config := {maxSteps := 4000000}) only [U_law16_ReqKinds, d1, d6, hc, reduceIte, reduceCtorEq, Nat.reduceEqDiff, Nat.reduceAdd, Int.reduceLT, Int.reduceLE, Int.reduceNeg, Int.reduceEq, Nat.reduceLT, Nat.reduceSub, Nat.reduceMul, Nat.reduceBEq, Nat.reduceLeDiff, Int.reduceBEq, Int.reduceBNe, Int.reduceToNat, ne_eq, implies_true, bA]
        all_goals first | rfl | simpa using hc
    · refine pcall_go Try.func3 comp_law16_ReqKinds ?_
      have d1 := decide_eq_true h1
      have d2 := decide_eq_false h2
      have hn : nameS k = [63] := by rw [nameS, if_pos (.inr (by omega))]
      have d6 : decide (k ≤ 6) = false := by simp only [decide_eq_false_iff_not]; omega
      have hc := hch k
      rw [d1, d6] at hc
      simp (config := {maxSteps := 4000000}) only [U_law16_ReqKinds, d1, d2, reduceIte, reduceCtorEq, Nat.reduceEqDiff, Nat.reduceAdd, Int.reduceLT, Int.reduceLE, Int.reduceNeg, Int.reduceEq, Nat.reduceLT, Nat.reduceSub, Nat.reduceMul, Nat.reduceBEq, Nat.reduceLeDiff, Int.reduceBEq, Int.reduceBNe, Int.reduceToNat, ne_eq, implies_true, bA]
      refine callI awake16_spec ?_
      simp (config := {maxSteps := 4000000}) only [U_law16_ReqKinds, reduceIte, reduceCtorEq, Nat.reduceEqDiff, Nat.reduceAdd, Int.reduceLT, Int.reduceLE, Int.reduceNeg, Int.reduceEq, Nat.reduceLT, Nat.reduceSub, Nat.reduceMul, Nat.reduceBEq, Nat.reduceLeDiff, Int.reduceBEq, Int.reduceBNe, Int.reduceToNat, ne_eq, implies_true, bA]
      refine callI (name_spec k) ?_
      rw [hn]
      simp (config := {maxSteps := 4000000}) only [U_law16_ReqKinds, beq_self_eq_true, reduceIte, reduceCtorEq, Nat.reduceEqDiff, Nat.reduceAdd, Int.reduceLT, Int.reduceLE, Int.reduceNeg, Int.reduceEq, Nat.reduceLT, Nat.reduceSub, Nat.reduceMul, Nat.reduceBEq, Nat.reduceLeDiff, Int.reduceBEq, Int.reduceBNe, Int.reduceToNat, ne_eq, implies_true, bA]
      refine callI (changes_spec k) ?_
      simp (config := {maxSteps := 4000000}) only [U_law16_ReqKinds, d1, d6, hc, reduceIte, reduceCtorEq, Nat.reduceEqDiff, Nat.reduceAdd, Int.reduceLT, Int.reduceLE, Int.reduceNeg, Int.reduceEq, Nat.reduceLT, Nat.reduceSub, Nat.reduceMul, Nat.reduceBEq, Nat.reduceLeDiff, Int.reduceBEq, Int.reduceBNe, Int.reduceToNat, ne_eq, implies_true, bA]
      all_goals first | rfl | simpa using hc
  · refine pcall_go Try.func3 comp_law16_ReqKinds ?_
    have d1 := decide_eq_false h1
    have hn : nameS k = [63] := by rw [nameS, if_pos (.inl (by omega))]
    have hc := hch k
    rw [d1, Bool.false_and] at hc
    simp (config := {maxSteps := 4000000}) only [U_law16_ReqKinds, d1, reduceIte, reduceCtorEq, Nat.reduceEqDiff, Nat.reduceAdd, Int.reduceLT, Int.reduceLE, Int.reduceNeg, Int.reduceEq, Nat.reduceLT, Nat.reduceSub, Nat.reduceMul, Nat.reduceBEq, Nat.reduceLeDiff, Int.reduceBEq, Int.reduceBNe, Int.reduceToNat, ne_eq, implies_true, bA]
    refine callI awake16_spec ?_
    simp (config := {maxSteps := 4000000}) only [U_law16_ReqKinds, reduceIte, reduceCtorEq, Nat.reduceEqDiff, Nat.reduceAdd, Int.reduceLT, Int.reduceLE, Int.reduceNeg, Int.reduceEq, Nat.reduceLT, Nat.reduceSub, Nat.reduceMul, Nat.reduceBEq, Nat.reduceLeDiff, Int.reduceBEq, Int.reduceBNe, Int.reduceToNat, ne_eq, implies_true, bA]
    refine callI (name_spec k) ?_
    rw [hn]
    simp (config := {maxSteps := 4000000}) only [U_law16_ReqKinds, beq_self_eq_true, reduceIte, reduceCtorEq, Nat.reduceEqDiff, Nat.reduceAdd, Int.reduceLT, Int.reduceLE, Int.reduceNeg, Int.reduceEq, Nat.reduceLT, Nat.reduceSub, Nat.reduceMul, Nat.reduceBEq, Nat.reduceLeDiff, Int.reduceBEq, Int.reduceBNe, Int.reduceToNat, ne_eq, implies_true, bA]
    refine callI (changes_spec k) ?_
    simp (config := {maxSteps := 4000000}) only [U_law16_ReqKinds, d1, hc, reduceIte, reduceCtorEq, Nat.reduceEqDiff, Nat.reduceAdd, Int.reduceLT, Int.reduceLE, Int.reduceNeg, Int.reduceEq, Nat.reduceLT, Nat.reduceSub, Nat.reduceMul, Nat.reduceBEq, Nat.reduceLeDiff, Int.reduceBEq, Int.reduceBNe, Int.reduceToNat, ne_eq, implies_true, bA]
    all_goals first | rfl | simpa using hc
def fewB (a : Rp) : Bool := decide (a.da.length ≤ 5000) && decide (a.ids.length ≤ 60)
theorem few_spec (a : Rp) : PCall Try.prog 11 [pA a] (.bool (fewB a)) := by
  refine pcall_go Try.func11 comp_law16_few ?_
  by_cases h1 : a.da.length ≤ 5000
  · have d1 : decide ((a.da.length : Int) ≤ 5000) = true := by simp only [decide_eq_true_eq]; omega
    have hr : fewB a = decide ((a.ids.length : Int) ≤ 60) := by rw [fewB, decide_eq_true h1, Bool.true_and, Bool.eq_iff_iff]; simp only [decide_eq_true_eq]; omega
    simp (config := {maxSteps := 4000000}) only [U_law16_few, rowA, d1, hr, reduceIte, reduceCtorEq, Nat.reduceEqDiff, Nat.reduceAdd, Int.reduceLT, Int.reduceLE, Int.reduceNeg, Int.reduceEq, Nat.reduceLT, Nat.reduceSub, Nat.reduceMul, Nat.reduceBEq, Nat.reduceLeDiff, Int.reduceBEq, Int.reduceBNe, Int.reduceToNat, ne_eq, implies_true, bA]
  · have d1 : decide ((a.da.length : Int) ≤ 5000) = false := by simp only [decide_eq_false_iff_not]; omega
    have hr : fewB a = false := by rw [fewB, decide_eq_false h1, Bool.false_and]
    simp (config := {maxSteps := 4000000}) only [U_law16_few, rowA, d1, hr, reduceIte, reduceCtorEq, Nat.reduceEqDiff, Nat.reduceAdd, Int.reduceLT, Int.reduceLE, Int.reduceNeg, Int.reduceEq, Nat.reduceLT, Nat.reduceSub, Nat.reduceMul, Nat.reduceBEq, Nat.reduceLeDiff, Int.reduceBEq, Int.reduceBNe, Int.reduceToNat, ne_eq, implies_true, bA]
theorem fewB_iff {a : Rp} : fewB a = true ↔ a.da.length ≤ 5000 ∧ a.ids.length ≤ 60 := by simp [fewB]
theorem rep_spec (a : Rp) : PCall Try.prog 16 [pA a] (pA a) := by
  refine pcall_go Try.func16 comp_law16_Rep ?_
  simp (config := {maxSteps := 4000000}) only [U_law16_Rep, rowA, reduceIte, reduceCtorEq, Nat.reduceEqDiff, Nat.reduceAdd, Int.reduceLT, Int.reduceLE, Int.reduceNeg, Int.reduceEq, Nat.reduceLT, Nat.reduceSub, Nat.reduceMul, Nat.reduceBEq, Nat.reduceLeDiff, Int.reduceBEq, Int.reduceBNe, Int.reduceToNat, ne_eq, implies_true, bA]
  all_goals rfl
theorem writes_law (q : Rq) (a : Rp) (hq : q.da.length ≤ 9223372036854775807) : PCall Try.prog 4 [pR q, pA a] (.bool true) := by
  refine pcall_go Try.func4 comp_law16_ReqWrites ?_
  by_cases h : 5000 < q.da.length
  · have d : decide ((5000 : Int) < (q.da.length : Int)) = true := by simp only [decide_eq_true_eq]; omega
    simp (config := {maxSteps := 4000000}) only [U_law16_ReqWrites, rowR, rowA, d, reduceIte, reduceCtorEq, Nat.reduceEqDiff, Nat.reduceAdd, Int.reduceLT, Int.reduceLE, Int.reduceNeg, Int.reduceEq, Nat.reduceLT, Nat.reduceSub, Nat.reduceMul, Nat.reduceBEq, Nat.reduceLeDiff, Int.reduceBEq, Int.reduceBNe, Int.reduceToNat, ne_eq, implies_true, bA]
    refine callI awake16_spec ?_
    simp (config := {maxSteps := 4000000}) only [U_law16_ReqWrites, reduceIte, reduceCtorEq, Nat.reduceEqDiff, Nat.reduceAdd, Int.reduceLT, Int.reduceLE, Int.reduceNeg, Int.reduceEq, Nat.reduceLT, Nat.reduceSub, Nat.reduceMul, Nat.reduceBEq, Nat.reduceLeDiff, Int.reduceBEq, Int.reduceBNe, Int.reduceToNat, ne_eq, implies_true, bA]
  · have d : decide ((5000 : Int) < (q.da.length : Int)) = false := by simp only [decide_eq_false_iff_not]; omega
    simp (config := {maxSteps := 4000000}) only [U_law16_ReqWrites, rowR, rowA, d, reduceIte, reduceCtorEq, Nat.reduceEqDiff, Nat.reduceAdd, Int.reduceLT, Int.reduceLE, Int.reduceNeg, Int.reduceEq, Nat.reduceLT, Nat.reduceSub, Nat.reduceMul, Nat.reduceBEq, Nat.reduceLeDiff, Int.reduceBEq, Int.reduceBNe, Int.reduceToNat, ne_eq, implies_true, bA]
    refine callI (few_spec a) ?_
    cases hf : fewB a with
    | false =>
      simp (config := {maxSteps := 4000000}) only [U_law16_ReqWrites, reduceIte, reduceCtorEq, Nat.reduceEqDiff, Nat.reduceAdd, Int.reduceLT, Int.reduceLE, Int.reduceNeg, Int.reduceEq, Nat.reduceLT, Nat.reduceSub, Nat.reduceMul, Nat.reduceBEq, Nat.reduceLeDiff, Int.reduceBEq, Int.reduceBNe, Int.reduceToNat, ne_eq, implies_true, bA]
      refine callI awake16_spec ?_
      simp (config := {maxSteps := 4000000}) only [U_law16_ReqWrites, reduceIte, reduceCtorEq, Nat.reduceEqDiff, Nat.reduceAdd, Int.reduceLT, Int.reduceLE, Int.reduceNeg, Int.reduceEq, Nat.reduceLT, Nat.reduceSub, Nat.reduceMul, Nat.reduceBEq, Nat.reduceLeDiff, Int.reduceBEq, Int.reduceBNe, Int.reduceToNat, ne_eq, implies_true, bA]
    | true =>
      obtain ⟨f1, f2⟩ := fewB_iff.1 hf
      simp (config := {maxSteps := 4000000}) only [U_law16_ReqWrites, reduceIte, reduceCtorEq, Nat.reduceEqDiff, Nat.reduceAdd, Int.reduceLT, Int.reduceLE, Int.reduceNeg, Int.reduceEq, Nat.reduceLT, Nat.reduceSub, Nat.reduceMul, Nat.reduceBEq, Nat.reduceLeDiff, Int.reduceBEq, Int.reduceBNe, Int.reduceToNat, ne_eq, implies_true, bA]
      refine callI (write_spec q hq) ?_
      simp (config := {maxSteps := 4000000}) only [U_law16_ReqWrites, rowR, reduceIte, reduceCtorEq, Nat.reduceEqDiff, Nat.reduceAdd, Int.reduceLT, Int.reduceLE, Int.reduceNeg, Int.reduceEq, Nat.reduceLT, Nat.reduceSub, Nat.reduceMul, Nat.reduceBEq, Nat.reduceLeDiff, Int.reduceBEq, Int.reduceBNe, Int.reduceToNat, ne_eq, implies_true, bA]
      refine callI (rwrite_spec q hq) ?_
      simp (config := {maxSteps := 4000000}) only [U_law16_ReqWrites, rowA, reduceIte, reduceCtorEq, Nat.reduceEqDiff, Nat.reduceAdd, Int.reduceLT, Int.reduceLE, Int.reduceNeg, Int.reduceEq, Nat.reduceLT, Nat.reduceSub, Nat.reduceMul, Nat.reduceBEq, Nat.reduceLeDiff, Int.reduceBEq, Int.reduceBNe, Int.reduceToNat, ne_eq, implies_true, bA]
      refine callI (answer_spec a (by omega) (by omega)) ?_
      simp (config := {maxSteps := 4000000}) only [U_law16_ReqWrites, rowA, reduceIte, reduceCtorEq, Nat.reduceEqDiff, Nat.reduceAdd, Int.reduceLT, Int.reduceLE, Int.reduceNeg, Int.reduceEq, Nat.reduceLT, Nat.reduceSub, Nat.reduceMul, Nat.reduceBEq, Nat.reduceLeDiff, Int.reduceBEq, Int.reduceBNe, Int.reduceToNat, ne_eq, implies_true, bA]
      refine callI (rep_spec a) ?_
      simp (config := {maxSteps := 4000000}) only [U_law16_ReqWrites, reduceIte, reduceCtorEq, Nat.reduceEqDiff, Nat.reduceAdd, Int.reduceLT, Int.reduceLE, Int.reduceNeg, Int.reduceEq, Nat.reduceLT, Nat.reduceSub, Nat.reduceMul, Nat.reduceBEq, Nat.reduceLeDiff, Int.reduceBEq, Int.reduceBNe, Int.reduceToNat, ne_eq, implies_true, bA]
      refine callI (ranswer_spec a (by omega) (by omega)) ?_
      simp (config := {maxSteps := 4000000}) only [U_law16_ReqWrites, reduceIte, reduceCtorEq, Nat.reduceEqDiff, Nat.reduceAdd, Int.reduceLT, Int.reduceLE, Int.reduceNeg, Int.reduceEq, Nat.reduceLT, Nat.reduceSub, Nat.reduceMul, Nat.reduceBEq, Nat.reduceLeDiff, Int.reduceBEq, Int.reduceBNe, Int.reduceToNat, ne_eq, implies_true, bA]
      refine callI awake16_spec ?_
      simp (config := {maxSteps := 4000000}) only [U_law16_ReqWrites, beq_self_eq_true, reduceIte, reduceCtorEq, Nat.reduceEqDiff, Nat.reduceAdd, Int.reduceLT, Int.reduceLE, Int.reduceNeg, Int.reduceEq, Nat.reduceLT, Nat.reduceSub, Nat.reduceMul, Nat.reduceBEq, Nat.reduceLeDiff, Int.reduceBEq, Int.reduceBNe, Int.reduceToNat, ne_eq, implies_true, bA]
theorem reads_law (s : List UInt8) (hm : s.length ≤ 9223372036854775807) : PCall Try.prog 6 [.str s] (.bool true) := by
  refine pcall_go Try.func6 comp_law16_ReqReads ?_
  by_cases h : 5000 < s.length
  · have d : decide ((5000 : Int) < (s.length : Int)) = true := by simp only [decide_eq_true_eq]; omega
    simp (config := {maxSteps := 4000000}) only [U_law16_ReqReads, d, reduceIte, reduceCtorEq, Nat.reduceEqDiff, Nat.reduceAdd, Int.reduceLT, Int.reduceLE, Int.reduceNeg, Int.reduceEq, Nat.reduceLT, Nat.reduceSub, Nat.reduceMul, Nat.reduceBEq, Nat.reduceLeDiff, Int.reduceBEq, Int.reduceBNe, Int.reduceToNat, ne_eq, implies_true, bA]
    refine callI awake16_spec ?_
    simp (config := {maxSteps := 4000000}) only [U_law16_ReqReads, reduceIte, reduceCtorEq, Nat.reduceEqDiff, Nat.reduceAdd, Int.reduceLT, Int.reduceLE, Int.reduceNeg, Int.reduceEq, Nat.reduceLT, Nat.reduceSub, Nat.reduceMul, Nat.reduceBEq, Nat.reduceLeDiff, Int.reduceBEq, Int.reduceBNe, Int.reduceToNat, ne_eq, implies_true, bA]
  · have d : decide ((5000 : Int) < (s.length : Int)) = false := by simp only [decide_eq_false_iff_not]; omega
    obtain ⟨z1, z2⟩ := readA_small s
    simp (config := {maxSteps := 4000000}) only [U_law16_ReqReads, d, reduceIte, reduceCtorEq, Nat.reduceEqDiff, Nat.reduceAdd, Int.reduceLT, Int.reduceLE, Int.reduceNeg, Int.reduceEq, Nat.reduceLT, Nat.reduceSub, Nat.reduceMul, Nat.reduceBEq, Nat.reduceLeDiff, Int.reduceBEq, Int.reduceBNe, Int.reduceToNat, ne_eq, implies_true, bA]
    refine callI (read_spec s (by omega)) ?_
    simp (config := {maxSteps := 4000000}) only [U_law16_ReqReads, rowR, reduceIte, reduceCtorEq, Nat.reduceEqDiff, Nat.reduceAdd, Int.reduceLT, Int.reduceLE, Int.reduceNeg, Int.reduceEq, Nat.reduceLT, Nat.reduceSub, Nat.reduceMul, Nat.reduceBEq, Nat.reduceLeDiff, Int.reduceBEq, Int.reduceBNe, Int.reduceToNat, ne_eq, implies_true, bA]
    refine callI (rread_spec s (by omega)) ?_
    simp (config := {maxSteps := 4000000}) only [U_law16_ReqReads, rowR, reduceIte, reduceCtorEq, Nat.reduceEqDiff, Nat.reduceAdd, Int.reduceLT, Int.reduceLE, Int.reduceNeg, Int.reduceEq, Nat.reduceLT, Nat.reduceSub, Nat.reduceMul, Nat.reduceBEq, Nat.reduceLeDiff, Int.reduceBEq, Int.reduceBNe, Int.reduceToNat, ne_eq, implies_true, bA]
    refine callI (ra_spec s (by omega)) ?_
    simp (config := {maxSteps := 4000000}) only [U_law16_ReqReads, rowA, reduceIte, reduceCtorEq, Nat.reduceEqDiff, Nat.reduceAdd, Int.reduceLT, Int.reduceLE, Int.reduceNeg, Int.reduceEq, Nat.reduceLT, Nat.reduceSub, Nat.reduceMul, Nat.reduceBEq, Nat.reduceLeDiff, Int.reduceBEq, Int.reduceBNe, Int.reduceToNat, ne_eq, implies_true, bA]
    refine callI (rra_spec s (by omega)) ?_
    simp (config := {maxSteps := 4000000}) only [U_law16_ReqReads, rowA, reduceIte, reduceCtorEq, Nat.reduceEqDiff, Nat.reduceAdd, Int.reduceLT, Int.reduceLE, Int.reduceNeg, Int.reduceEq, Nat.reduceLT, Nat.reduceSub, Nat.reduceMul, Nat.reduceBEq, Nat.reduceLeDiff, Int.reduceBEq, Int.reduceBNe, Int.reduceToNat, ne_eq, implies_true, bA]
    refine callI awake16_spec ?_
    simp (config := {maxSteps := 4000000}) only [U_law16_ReqReads, rowA, beq_self_eq_true, reduceIte, reduceCtorEq, Nat.reduceEqDiff, Nat.reduceAdd, Int.reduceLT, Int.reduceLE, Int.reduceNeg, Int.reduceEq, Nat.reduceLT, Nat.reduceSub, Nat.reduceMul, Nat.reduceBEq, Nat.reduceLeDiff, Int.reduceBEq, Int.reduceBNe, Int.reduceToNat, ne_eq, implies_true, bA]
    refine callI (rep_spec (readA s).1) ?_
    simp (config := {maxSteps := 4000000}) only [U_law16_ReqReads, rowA, reduceIte, reduceCtorEq, Nat.reduceEqDiff, Nat.reduceAdd, Int.reduceLT, Int.reduceLE, Int.reduceNeg, Int.reduceEq, Nat.reduceLT, Nat.reduceSub, Nat.reduceMul, Nat.reduceBEq, Nat.reduceLeDiff, Int.reduceBEq, Int.reduceBNe, Int.reduceToNat, ne_eq, implies_true, bA]
    refine callI (sameA_spec (readA s).1 (readA s).1 (by omega) (by omega)) ?_
    have hs := decide_eq_true (rfl : (readA s).1 = (readA s).1)
    rw [hs]
    simp (config := {maxSteps := 4000000}) only [U_law16_ReqReads, beq_self_eq_true, reduceIte, reduceCtorEq, Nat.reduceEqDiff, Nat.reduceAdd, Int.reduceLT, Int.reduceLE, Int.reduceNeg, Int.reduceEq, Nat.reduceLT, Nat.reduceSub, Nat.reduceMul, Nat.reduceBEq, Nat.reduceLeDiff, Int.reduceBEq, Int.reduceBNe, Int.reduceToNat, ne_eq, implies_true, bA]
set_option maxHeartbeats 2000000 in
theorem back_law (q : Rq) (a : Rp) (s : List UInt8) (hq : q.da.length ≤ 9223372036854775807) (hm : s.length ≤ 9223372036854775807) : PCall Try.prog 7 [pR q, pA a, .str s] (.bool true) := by
  refine pcall_go Try.func7 comp_law16_ReqBack ?_
  by_cases h : 5000 < q.da.length
  · have d : decide ((5000 : Int) < (q.da.length : Int)) = true := by simp only [decide_eq_true_eq]; omega
    simp (config := {maxSteps := 4000000}) only [U_law16_ReqBack, rowR, rowA, d, reduceIte, reduceCtorEq, Nat.reduceEqDiff, Nat.reduceAdd, Int.reduceLT, Int.reduceLE, Int.reduceNeg, Int.reduceEq, Nat.reduceLT, Nat.reduceSub, Nat.reduceMul, Nat.reduceBEq, Nat.reduceLeDiff, Int.reduceBEq, Int.reduceBNe, Int.reduceToNat, ne_eq, implies_true, bA]
    refine callI awake16_spec ?_
    simp (config := {maxSteps := 4000000}) only [U_law16_ReqBack, reduceIte, reduceCtorEq, Nat.reduceEqDiff, Nat.reduceAdd, Int.reduceLT, Int.reduceLE, Int.reduceNeg, Int.reduceEq, Nat.reduceLT, Nat.reduceSub, Nat.reduceMul, Nat.reduceBEq, Nat.reduceLeDiff, Int.reduceBEq, Int.reduceBNe, Int.reduceToNat, ne_eq, implies_true, bA]
  · have d : decide ((5000 : Int) < (q.da.length : Int)) = false := by simp only [decide_eq_false_iff_not]; omega
    simp (config := {maxSteps := 4000000}) only [U_law16_ReqBack, rowR, rowA, d, reduceIte, reduceCtorEq, Nat.reduceEqDiff, Nat.reduceAdd, Int.reduceLT, Int.reduceLE, Int.reduceNeg, Int.reduceEq, Nat.reduceLT, Nat.reduceSub, Nat.reduceMul, Nat.reduceBEq, Nat.reduceLeDiff, Int.reduceBEq, Int.reduceBNe, Int.reduceToNat, ne_eq, implies_true, bA]
    refine callI (few_spec a) ?_
    cases hf : fewB a with
    | false =>
      simp (config := {maxSteps := 4000000}) only [U_law16_ReqBack, reduceIte, reduceCtorEq, Nat.reduceEqDiff, Nat.reduceAdd, Int.reduceLT, Int.reduceLE, Int.reduceNeg, Int.reduceEq, Nat.reduceLT, Nat.reduceSub, Nat.reduceMul, Nat.reduceBEq, Nat.reduceLeDiff, Int.reduceBEq, Int.reduceBNe, Int.reduceToNat, ne_eq, implies_true, bA]
      refine callI awake16_spec ?_
      simp (config := {maxSteps := 4000000}) only [U_law16_ReqBack, reduceIte, reduceCtorEq, Nat.reduceEqDiff, Nat.reduceAdd, Int.reduceLT, Int.reduceLE, Int.reduceNeg, Int.reduceEq, Nat.reduceLT, Nat.reduceSub, Nat.reduceMul, Nat.reduceBEq, Nat.reduceLeDiff, Int.reduceBEq, Int.reduceBNe, Int.reduceToNat, ne_eq, implies_true, bA]
    | true =>
      obtain ⟨f1, f2⟩ := fewB_iff.1 hf
      by_cases h2 : 5000 < s.length
      · have d2 : decide ((5000 : Int) < (s.length : Int)) = true := by simp only [decide_eq_true_eq]; omega
        simp (config := {maxSteps := 4000000}) only [U_law16_ReqBack, d2, reduceIte, reduceCtorEq, Nat.reduceEqDiff, Nat.reduceAdd, Int.reduceLT, Int.reduceLE, Int.reduceNeg, Int.reduceEq, Nat.reduceLT, Nat.reduceSub, Nat.reduceMul, Nat.reduceBEq, Nat.reduceLeDiff, Int.reduceBEq, Int.reduceBNe, Int.reduceToNat, ne_eq, implies_true, bA]
        refine callI awake16_spec ?_
        simp (config := {maxSteps := 4000000}) only [U_law16_ReqBack, reduceIte, reduceCtorEq, Nat.reduceEqDiff, Nat.reduceAdd, Int.reduceLT, Int.reduceLE, Int.reduceNeg, Int.reduceEq, Nat.reduceLT, Nat.reduceSub, Nat.reduceMul, Nat.reduceBEq, Nat.reduceLeDiff, Int.reduceBEq, Int.reduceBNe, Int.reduceToNat, ne_eq, implies_true, bA]
      · have d2 : decide ((5000 : Int) < (s.length : Int)) = false := by simp only [decide_eq_false_iff_not]; omega
        obtain ⟨z1, z2⟩ := readA_small s
        have z3 := readR_da s
        have hawk := awake16_spec
        simp (config := {maxSteps := 4000000}) only [U_law16_ReqBack, d2, reduceIte, reduceCtorEq, Nat.reduceEqDiff, Nat.reduceAdd, Int.reduceLT, Int.reduceLE, Int.reduceNeg, Int.reduceEq, Nat.reduceLT, Nat.reduceSub, Nat.reduceMul, Nat.reduceBEq, Nat.reduceLeDiff, Int.reduceBEq, Int.reduceBNe, Int.reduceToNat, ne_eq, implies_true, bA]
        refine callI (write_spec q hq) ?_
        cases hmay : mayR q with
        | true =>
          have hw : writeR q = (sealS (bodyR q), 0) := by rw [writeR, if_pos hmay]
          have hwl := writeR_len q
          rw [hw] at hwl
          rw [hw]
          simp (config := {maxSteps := 4000000}) only [U_law16_ReqBack, rowR, reduceIte, reduceCtorEq, Nat.reduceEqDiff, Nat.reduceAdd, Int.reduceLT, Int.reduceLE, Int.reduceNeg, Int.reduceEq, Nat.reduceLT, Nat.reduceSub, Nat.reduceMul, Nat.reduceBEq, Nat.reduceLeDiff, Int.reduceBEq, Int.reduceBNe, Int.reduceToNat, ne_eq, implies_true, bA]
          refine callI (read_spec (sealS (bodyR q)) (by simp only [] at hwl; omega)) ?_
          rw [read_writeR q hmay]
          simp (config := {maxSteps := 4000000}) only [U_law16_ReqBack, rowR, rowA, beq_self_eq_true, reduceIte, reduceCtorEq, Nat.reduceEqDiff, Nat.reduceAdd, Int.reduceLT, Int.reduceLE, Int.reduceNeg, Int.reduceEq, Nat.reduceLT, Nat.reduceSub, Nat.reduceMul, Nat.reduceBEq, Nat.reduceLeDiff, Int.reduceBEq, Int.reduceBNe, Int.reduceToNat, ne_eq, implies_true, bA]
          refine callI (answer_spec a (by omega) (by omega)) ?_
          cases hmayA : mayA a with
          | true =>
            have hwA : writeA a = (sealS (bodyA a), 0) := by rw [writeA, if_pos hmayA]
            have hwlA := writeA_len a
            rw [hwA] at hwlA
            rw [hwA]
            simp (config := {maxSteps := 4000000}) only [U_law16_ReqBack, rowA, reduceIte, reduceCtorEq, Nat.reduceEqDiff, Nat.reduceAdd, Int.reduceLT, Int.reduceLE, Int.reduceNeg, Int.reduceEq, Nat.reduceLT, Nat.reduceSub, Nat.reduceMul, Nat.reduceBEq, Nat.reduceLeDiff, Int.reduceBEq, Int.reduceBNe, Int.reduceToNat, ne_eq, implies_true, bA]
            refine callI (ra_spec (sealS (bodyA a)) (by simp only [] at hwlA; omega)) ?_
            rw [read_writeA a hmayA]
            simp (config := {maxSteps := 4000000}) only [U_law16_ReqBack, rowA, reduceIte, reduceCtorEq, Nat.reduceEqDiff, Nat.reduceAdd, Int.reduceLT, Int.reduceLE, Int.reduceNeg, Int.reduceEq, Nat.reduceLT, Nat.reduceSub, Nat.reduceMul, Nat.reduceBEq, Nat.reduceLeDiff, Int.reduceBEq, Int.reduceBNe, Int.reduceToNat, ne_eq, implies_true, bA]
            refine callI (rep_spec a) ?_
            simp (config := {maxSteps := 4000000}) only [U_law16_ReqBack, rowA, reduceIte, reduceCtorEq, Nat.reduceEqDiff, Nat.reduceAdd, Int.reduceLT, Int.reduceLE, Int.reduceNeg, Int.reduceEq, Nat.reduceLT, Nat.reduceSub, Nat.reduceMul, Nat.reduceBEq, Nat.reduceLeDiff, Int.reduceBEq, Int.reduceBNe, Int.reduceToNat, ne_eq, implies_true, bA]
            refine callI (rep_spec a) ?_
            simp (config := {maxSteps := 4000000}) only [U_law16_ReqBack, rowA, reduceIte, reduceCtorEq, Nat.reduceEqDiff, Nat.reduceAdd, Int.reduceLT, Int.reduceLE, Int.reduceNeg, Int.reduceEq, Nat.reduceLT, Nat.reduceSub, Nat.reduceMul, Nat.reduceBEq, Nat.reduceLeDiff, Int.reduceBEq, Int.reduceBNe, Int.reduceToNat, ne_eq, implies_true, bA]
            refine callI (sameA_spec a a (by omega) (by omega)) ?_
            have hsA := decide_eq_true (rfl : a = a)
            rw [hsA]
            simp (config := {maxSteps := 4000000}) only [U_law16_ReqBack, rowA, reduceIte, reduceCtorEq, Nat.reduceEqDiff, Nat.reduceAdd, Int.reduceLT, Int.reduceLE, Int.reduceNeg, Int.reduceEq, Nat.reduceLT, Nat.reduceSub, Nat.reduceMul, Nat.reduceBEq, Nat.reduceLeDiff, Int.reduceBEq, Int.reduceBNe, Int.reduceToNat, ne_eq, implies_true, bA]
            refine callI (read_spec s (by omega)) ?_
            simp (config := {maxSteps := 4000000}) only [U_law16_ReqBack, rowR, reduceIte, reduceCtorEq, Nat.reduceEqDiff, Nat.reduceAdd, Int.reduceLT, Int.reduceLE, Int.reduceNeg, Int.reduceEq, Nat.reduceLT, Nat.reduceSub, Nat.reduceMul, Nat.reduceBEq, Nat.reduceLeDiff, Int.reduceBEq, Int.reduceBNe, Int.reduceToNat, ne_eq, implies_true, bA]
            refine callI (write_spec (readR s).1 (by omega)) ?_
            simp (config := {maxSteps := 4000000}) only [U_law16_ReqBack, reduceIte, reduceCtorEq, Nat.reduceEqDiff, Nat.reduceAdd, Int.reduceLT, Int.reduceLE, Int.reduceNeg, Int.reduceEq, Nat.reduceLT, Nat.reduceSub, Nat.reduceMul, Nat.reduceBEq, Nat.reduceLeDiff, Int.reduceBEq, Int.reduceBNe, Int.reduceToNat, ne_eq, implies_true, bA]
            refine callI (ra_spec s (by omega)) ?_
            simp (config := {maxSteps := 4000000}) only [U_law16_ReqBack, rowA, reduceIte, reduceCtorEq, Nat.reduceEqDiff, Nat.reduceAdd, Int.reduceLT, Int.reduceLE, Int.reduceNeg, Int.reduceEq, Nat.reduceLT, Nat.reduceSub, Nat.reduceMul, Nat.reduceBEq, Nat.reduceLeDiff, Int.reduceBEq, Int.reduceBNe, Int.reduceToNat, ne_eq, implies_true, bA]
            refine callI (answer_spec (readA s).1 (by omega) (by omega)) ?_
            simp (config := {maxSteps := 4000000}) only [U_law16_ReqBack, reduceIte, reduceCtorEq, Nat.reduceEqDiff, Nat.reduceAdd, Int.reduceLT, Int.reduceLE, Int.reduceNeg, Int.reduceEq, Nat.reduceLT, Nat.reduceSub, Nat.reduceMul, Nat.reduceBEq, Nat.reduceLeDiff, Int.reduceBEq, Int.reduceBNe, Int.reduceToNat, ne_eq, implies_true, bA]
            refine callI hawk ?_
            by_cases h3 : (readR s).2 = 0
            · have d3 : ((readR s).2 != 0) = false := by simpa using h3
              have k2 := (write_readR h3).2
              rw [k2]
              by_cases h4 : (readA s).2 = 0
              · have d4 : ((readA s).2 != 0) = false := by simpa using h4
                have k4 := (write_readA h4).2
                rw [k4]
                simp (config := {maxSteps := 4000000}) only [U_law16_ReqBack, d3, d4, beq_self_eq_true, reduceIte, reduceCtorEq, Nat.reduceEqDiff, Nat.reduceAdd, Int.reduceLT, Int.reduceLE, Int.reduceNeg, Int.reduceEq, Nat.reduceLT, Nat.reduceSub, Nat.reduceMul, Nat.reduceBEq, Nat.reduceLeDiff, Int.reduceBEq, Int.reduceBNe, Int.reduceToNat, ne_eq, implies_true, bA]
              · have d4 : ((readA s).2 != 0) = true := by simpa using h4
                simp (config := {maxSteps := 4000000}) only [U_law16_ReqBack, d3, d4, beq_self_eq_true, reduceIte, reduceCtorEq, Nat.reduceEqDiff, Nat.reduceAdd, Int.reduceLT, Int.reduceLE, Int.reduceNeg, Int.reduceEq, Nat.reduceLT, Nat.reduceSub, Nat.reduceMul, Nat.reduceBEq, Nat.reduceLeDiff, Int.reduceBEq, Int.reduceBNe, Int.reduceToNat, ne_eq, implies_true, bA]
            · have d3 : ((readR s).2 != 0) = true := by simpa using h3
              by_cases h4 : (readA s).2 = 0
              · have d4 : ((readA s).2 != 0) = false := by simpa using h4
                have k4 := (write_readA h4).2
                rw [k4]
                simp (config := {maxSteps := 4000000}) only [U_law16_ReqBack, d3, d4, beq_self_eq_true, reduceIte, reduceCtorEq, Nat.reduceEqDiff, Nat.reduceAdd, Int.reduceLT, Int.reduceLE, Int.reduceNeg, Int.reduceEq, Nat.reduceLT, Nat.reduceSub, Nat.reduceMul, Nat.reduceBEq, Nat.reduceLeDiff, Int.reduceBEq, Int.reduceBNe, Int.reduceToNat, ne_eq, implies_true, bA]
              · have d4 : ((readA s).2 != 0) = true := by simpa using h4
                simp (config := {maxSteps := 4000000}) only [U_law16_ReqBack, d3, d4, beq_self_eq_true, reduceIte, reduceCtorEq, Nat.reduceEqDiff, Nat.reduceAdd, Int.reduceLT, Int.reduceLE, Int.reduceNeg, Int.reduceEq, Nat.reduceLT, Nat.reduceSub, Nat.reduceMul, Nat.reduceBEq, Nat.reduceLeDiff, Int.reduceBEq, Int.reduceBNe, Int.reduceToNat, ne_eq, implies_true, bA]
          | false =>
            have hwA : writeA a = ([], 1) := by rw [writeA, if_neg (by rw [hmayA]; simp)]
            rw [hwA]
            simp (config := {maxSteps := 4000000}) only [U_law16_ReqBack, rowA, reduceIte, reduceCtorEq, Nat.reduceEqDiff, Nat.reduceAdd, Int.reduceLT, Int.reduceLE, Int.reduceNeg, Int.reduceEq, Nat.reduceLT, Nat.reduceSub, Nat.reduceMul, Nat.reduceBEq, Nat.reduceLeDiff, Int.reduceBEq, Int.reduceBNe, Int.reduceToNat, ne_eq, implies_true, bA]
            refine callI (read_spec s (by omega)) ?_
            simp (config := {maxSteps := 4000000}) only [U_law16_ReqBack, rowR, reduceIte, reduceCtorEq, Nat.reduceEqDiff, Nat.reduceAdd, Int.reduceLT, Int.reduceLE, Int.reduceNeg, Int.reduceEq, Nat.reduceLT, Nat.reduceSub, Nat.reduceMul, Nat.reduceBEq, Nat.reduceLeDiff, Int.reduceBEq, Int.reduceBNe, Int.reduceToNat, ne_eq, implies_true, bA]
            refine callI (write_spec (readR s).1 (by omega)) ?_
            simp (config := {maxSteps := 4000000}) only [U_law16_ReqBack, reduceIte, reduceCtorEq, Nat.reduceEqDiff, Nat.reduceAdd, Int.reduceLT, Int.reduceLE, Int.reduceNeg, Int.reduceEq, Nat.reduceLT, Nat.reduceSub, Nat.reduceMul, Nat.reduceBEq, Nat.reduceLeDiff, Int.reduceBEq, Int.reduceBNe, Int.reduceToNat, ne_eq, implies_true, bA]
            refine callI (ra_spec s (by omega)) ?_
            simp (config := {maxSteps := 4000000}) only [U_law16_ReqBack, rowA, reduceIte, reduceCtorEq, Nat.reduceEqDiff, Nat.reduceAdd, Int.reduceLT, Int.reduceLE, Int.reduceNeg, Int.reduceEq, Nat.reduceLT, Nat.reduceSub, Nat.reduceMul, Nat.reduceBEq, Nat.reduceLeDiff, Int.reduceBEq, Int.reduceBNe, Int.reduceToNat, ne_eq, implies_true, bA]
            refine callI (answer_spec (readA s).1 (by omega) (by omega)) ?_
            simp (config := {maxSteps := 4000000}) only [U_law16_ReqBack, reduceIte, reduceCtorEq, Nat.reduceEqDiff, Nat.reduceAdd, Int.reduceLT, Int.reduceLE, Int.reduceNeg, Int.reduceEq, Nat.reduceLT, Nat.reduceSub, Nat.reduceMul, Nat.reduceBEq, Nat.reduceLeDiff, Int.reduceBEq, Int.reduceBNe, Int.reduceToNat, ne_eq, implies_true, bA]
            refine callI hawk ?_
            by_cases h3 : (readR s).2 = 0
            · have d3 : ((readR s).2 != 0) = false := by simpa using h3
              have k2 := (write_readR h3).2
              rw [k2]
              by_cases h4 : (readA s).2 = 0
              · have d4 : ((readA s).2 != 0) = false := by simpa using h4
                have k4 := (write_readA h4).2
                rw [k4]
                simp (config := {maxSteps := 4000000}) only [U_law16_ReqBack, d3, d4, beq_self_eq_true, reduceIte, reduceCtorEq, Nat.reduceEqDiff, Nat.reduceAdd, Int.reduceLT, Int.reduceLE, Int.reduceNeg, Int.reduceEq, Nat.reduceLT, Nat.reduceSub, Nat.reduceMul, Nat.reduceBEq, Nat.reduceLeDiff, Int.reduceBEq, Int.reduceBNe, Int.reduceToNat, ne_eq, implies_true, bA]
              · have d4 : ((readA s).2 != 0) = true := by simpa using h4
                simp (config := {maxSteps := 4000000}) only [U_law16_ReqBack, d3, d4, beq_self_eq_true, reduceIte, reduceCtorEq, Nat.reduceEqDiff, Nat.reduceAdd, Int.reduceLT, Int.reduceLE, Int.reduceNeg, Int.reduceEq, Nat.reduceLT, Nat.reduceSub, Nat.reduceMul, Nat.reduceBEq, Nat.reduceLeDiff, Int.reduceBEq, Int.reduceBNe, Int.reduceToNat, ne_eq, implies_true, bA]
            · have d3 : ((readR s).2 != 0) = true := by simpa using h3
              by_cases h4 : (readA s).2 = 0
              · have d4 : ((readA s).2 != 0) = false := by simpa using h4
                have k4 := (write_readA h4).2
                rw [k4]
                simp (config := {maxSteps := 4000000}) only [U_law16_ReqBack, d3, d4, beq_self_eq_true, reduceIte, reduceCtorEq, Nat.reduceEqDiff, Nat.reduceAdd, Int.reduceLT, Int.reduceLE, Int.reduceNeg, Int.reduceEq, Nat.reduceLT, Nat.reduceSub, Nat.reduceMul, Nat.reduceBEq, Nat.reduceLeDiff, Int.reduceBEq, Int.reduceBNe, Int.reduceToNat, ne_eq, implies_true, bA]
              · have d4 : ((readA s).2 != 0) = true := by simpa using h4
                simp (config := {maxSteps := 4000000}) only [U_law16_ReqBack, d3, d4, beq_self_eq_true, reduceIte, reduceCtorEq, Nat.reduceEqDiff, Nat.reduceAdd, Int.reduceLT, Int.reduceLE, Int.reduceNeg, Int.reduceEq, Nat.reduceLT, Nat.reduceSub, Nat.reduceMul, Nat.reduceBEq, Nat.reduceLeDiff, Int.reduceBEq, Int.reduceBNe, Int.reduceToNat, ne_eq, implies_true, bA]
        | false =>
          have hw : writeR q = ([], 1) := by rw [writeR, if_neg (by rw [hmay]; simp)]
          rw [hw]
          simp (config := {maxSteps := 4000000}) only [U_law16_ReqBack, rowR, rowA, reduceIte, reduceCtorEq, Nat.reduceEqDiff, Nat.reduceAdd, Int.reduceLT, Int.reduceLE, Int.reduceNeg, Int.reduceEq, Nat.reduceLT, Nat.reduceSub, Nat.reduceMul, Nat.reduceBEq, Nat.reduceLeDiff, Int.reduceBEq, Int.reduceBNe, Int.reduceToNat, ne_eq, implies_true, bA]
          refine callI (answer_spec a (by omega) (by omega)) ?_
          cases hmayA : mayA a with
          | true =>
            have hwA : writeA a = (sealS (bodyA a), 0) := by rw [writeA, if_pos hmayA]
            have hwlA := writeA_len a
            rw [hwA] at hwlA
            rw [hwA]
            simp (config := {maxSteps := 4000000}) only [U_law16_ReqBack, rowA, reduceIte, reduceCtorEq, Nat.reduceEqDiff, Nat.reduceAdd, Int.reduceLT, Int.reduceLE, Int.reduceNeg, Int.reduceEq, Nat.reduceLT, Nat.reduceSub, Nat.reduceMul, Nat.reduceBEq, Nat.reduceLeDiff, Int.reduceBEq, Int.reduceBNe, Int.reduceToNat, ne_eq, implies_true, bA]
            refine callI (ra_spec (sealS (bodyA a)) (by simp only [] at hwlA; omega)) ?_
            rw [read_writeA a hmayA]
            simp (config := {maxSteps := 4000000}) only [U_law16_ReqBack, rowA, reduceIte, reduceCtorEq, Nat.reduceEqDiff, Nat.reduceAdd, Int.reduceLT, Int.reduceLE, Int.reduceNeg, Int.reduceEq, Nat.reduceLT, Nat.reduceSub, Nat.reduceMul, Nat.reduceBEq, Nat.reduceLeDiff, Int.reduceBEq, Int.reduceBNe, Int.reduceToNat, ne_eq, implies_true, bA]
            refine callI (rep_spec a) ?_
            simp (config := {maxSteps := 4000000}) only [U_law16_ReqBack, rowA, reduceIte, reduceCtorEq, Nat.reduceEqDiff, Nat.reduceAdd, Int.reduceLT, Int.reduceLE, Int.reduceNeg, Int.reduceEq, Nat.reduceLT, Nat.reduceSub, Nat.reduceMul, Nat.reduceBEq, Nat.reduceLeDiff, Int.reduceBEq, Int.reduceBNe, Int.reduceToNat, ne_eq, implies_true, bA]
            refine callI (rep_spec a) ?_
            simp (config := {maxSteps := 4000000}) only [U_law16_ReqBack, rowA, reduceIte, reduceCtorEq, Nat.reduceEqDiff, Nat.reduceAdd, Int.reduceLT, Int.reduceLE, Int.reduceNeg, Int.reduceEq, Nat.reduceLT, Nat.reduceSub, Nat.reduceMul, Nat.reduceBEq, Nat.reduceLeDiff, Int.reduceBEq, Int.reduceBNe, Int.reduceToNat, ne_eq, implies_true, bA]
            refine callI (sameA_spec a a (by omega) (by omega)) ?_
            have hsA := decide_eq_true (rfl : a = a)
            rw [hsA]
            simp (config := {maxSteps := 4000000}) only [U_law16_ReqBack, rowA, reduceIte, reduceCtorEq, Nat.reduceEqDiff, Nat.reduceAdd, Int.reduceLT, Int.reduceLE, Int.reduceNeg, Int.reduceEq, Nat.reduceLT, Nat.reduceSub, Nat.reduceMul, Nat.reduceBEq, Nat.reduceLeDiff, Int.reduceBEq, Int.reduceBNe, Int.reduceToNat, ne_eq, implies_true, bA]
            refine callI (read_spec s (by omega)) ?_
            simp (config := {maxSteps := 4000000}) only [U_law16_ReqBack, rowR, reduceIte, reduceCtorEq, Nat.reduceEqDiff, Nat.reduceAdd, Int.reduceLT, Int.reduceLE, Int.reduceNeg, Int.reduceEq, Nat.reduceLT, Nat.reduceSub, Nat.reduceMul, Nat.reduceBEq, Nat.reduceLeDiff, Int.reduceBEq, Int.reduceBNe, Int.reduceToNat, ne_eq, implies_true, bA]
            refine callI (write_spec (readR s).1 (by omega)) ?_
            simp (config := {maxSteps := 4000000}) only [U_law16_ReqBack, reduceIte, reduceCtorEq, Nat.reduceEqDiff, Nat.reduceAdd, Int.reduceLT, Int.reduceLE, Int.reduceNeg, Int.reduceEq, Nat.reduceLT, Nat.reduceSub, Nat.reduceMul, Nat.reduceBEq, Nat.reduceLeDiff, Int.reduceBEq, Int.reduceBNe, Int.reduceToNat, ne_eq, implies_true, bA]
            refine callI (ra_spec s (by omega)) ?_
            simp (config := {maxSteps := 4000000}) only [U_law16_ReqBack, rowA, reduceIte, reduceCtorEq, Nat.reduceEqDiff, Nat.reduceAdd, Int.reduceLT, Int.reduceLE, Int.reduceNeg, Int.reduceEq, Nat.reduceLT, Nat.reduceSub, Nat.reduceMul, Nat.reduceBEq, Nat.reduceLeDiff, Int.reduceBEq, Int.reduceBNe, Int.reduceToNat, ne_eq, implies_true, bA]
            refine callI (answer_spec (readA s).1 (by omega) (by omega)) ?_
            simp (config := {maxSteps := 4000000}) only [U_law16_ReqBack, reduceIte, reduceCtorEq, Nat.reduceEqDiff, Nat.reduceAdd, Int.reduceLT, Int.reduceLE, Int.reduceNeg, Int.reduceEq, Nat.reduceLT, Nat.reduceSub, Nat.reduceMul, Nat.reduceBEq, Nat.reduceLeDiff, Int.reduceBEq, Int.reduceBNe, Int.reduceToNat, ne_eq, implies_true, bA]
            refine callI hawk ?_
            by_cases h3 : (readR s).2 = 0
            · have d3 : ((readR s).2 != 0) = false := by simpa using h3
              have k2 := (write_readR h3).2
              rw [k2]
              by_cases h4 : (readA s).2 = 0
              · have d4 : ((readA s).2 != 0) = false := by simpa using h4
                have k4 := (write_readA h4).2
                rw [k4]
                simp (config := {maxSteps := 4000000}) only [U_law16_ReqBack, d3, d4, beq_self_eq_true, reduceIte, reduceCtorEq, Nat.reduceEqDiff, Nat.reduceAdd, Int.reduceLT, Int.reduceLE, Int.reduceNeg, Int.reduceEq, Nat.reduceLT, Nat.reduceSub, Nat.reduceMul, Nat.reduceBEq, Nat.reduceLeDiff, Int.reduceBEq, Int.reduceBNe, Int.reduceToNat, ne_eq, implies_true, bA]
              · have d4 : ((readA s).2 != 0) = true := by simpa using h4
                simp (config := {maxSteps := 4000000}) only [U_law16_ReqBack, d3, d4, beq_self_eq_true, reduceIte, reduceCtorEq, Nat.reduceEqDiff, Nat.reduceAdd, Int.reduceLT, Int.reduceLE, Int.reduceNeg, Int.reduceEq, Nat.reduceLT, Nat.reduceSub, Nat.reduceMul, Nat.reduceBEq, Nat.reduceLeDiff, Int.reduceBEq, Int.reduceBNe, Int.reduceToNat, ne_eq, implies_true, bA]
            · have d3 : ((readR s).2 != 0) = true := by simpa using h3
              by_cases h4 : (readA s).2 = 0
              · have d4 : ((readA s).2 != 0) = false := by simpa using h4
                have k4 := (write_readA h4).2
                rw [k4]
                simp (config := {maxSteps := 4000000}) only [U_law16_ReqBack, d3, d4, beq_self_eq_true, reduceIte, reduceCtorEq, Nat.reduceEqDiff, Nat.reduceAdd, Int.reduceLT, Int.reduceLE, Int.reduceNeg, Int.reduceEq, Nat.reduceLT, Nat.reduceSub, Nat.reduceMul, Nat.reduceBEq, Nat.reduceLeDiff, Int.reduceBEq, Int.reduceBNe, Int.reduceToNat, ne_eq, implies_true, bA]
              · have d4 : ((readA s).2 != 0) = true := by simpa using h4
                simp (config := {maxSteps := 4000000}) only [U_law16_ReqBack, d3, d4, beq_self_eq_true, reduceIte, reduceCtorEq, Nat.reduceEqDiff, Nat.reduceAdd, Int.reduceLT, Int.reduceLE, Int.reduceNeg, Int.reduceEq, Nat.reduceLT, Nat.reduceSub, Nat.reduceMul, Nat.reduceBEq, Nat.reduceLeDiff, Int.reduceBEq, Int.reduceBNe, Int.reduceToNat, ne_eq, implies_true, bA]
          | false =>
            have hwA : writeA a = ([], 1) := by rw [writeA, if_neg (by rw [hmayA]; simp)]
            rw [hwA]
            simp (config := {maxSteps := 4000000}) only [U_law16_ReqBack, rowA, reduceIte, reduceCtorEq, Nat.reduceEqDiff, Nat.reduceAdd, Int.reduceLT, Int.reduceLE, Int.reduceNeg, Int.reduceEq, Nat.reduceLT, Nat.reduceSub, Nat.reduceMul, Nat.reduceBEq, Nat.reduceLeDiff, Int.reduceBEq, Int.reduceBNe, Int.reduceToNat, ne_eq, implies_true, bA]
            refine callI (read_spec s (by omega)) ?_
            simp (config := {maxSteps := 4000000}) only [U_law16_ReqBack, rowR, reduceIte, reduceCtorEq, Nat.reduceEqDiff, Nat.reduceAdd, Int.reduceLT, Int.reduceLE, Int.reduceNeg, Int.reduceEq, Nat.reduceLT, Nat.reduceSub, Nat.reduceMul, Nat.reduceBEq, Nat.reduceLeDiff, Int.reduceBEq, Int.reduceBNe, Int.reduceToNat, ne_eq, implies_true, bA]
            refine callI (write_spec (readR s).1 (by omega)) ?_
            simp (config := {maxSteps := 4000000}) only [U_law16_ReqBack, reduceIte, reduceCtorEq, Nat.reduceEqDiff, Nat.reduceAdd, Int.reduceLT, Int.reduceLE, Int.reduceNeg, Int.reduceEq, Nat.reduceLT, Nat.reduceSub, Nat.reduceMul, Nat.reduceBEq, Nat.reduceLeDiff, Int.reduceBEq, Int.reduceBNe, Int.reduceToNat, ne_eq, implies_true, bA]
            refine callI (ra_spec s (by omega)) ?_
            simp (config := {maxSteps := 4000000}) only [U_law16_ReqBack, rowA, reduceIte, reduceCtorEq, Nat.reduceEqDiff, Nat.reduceAdd, Int.reduceLT, Int.reduceLE, Int.reduceNeg, Int.reduceEq, Nat.reduceLT, Nat.reduceSub, Nat.reduceMul, Nat.reduceBEq, Nat.reduceLeDiff, Int.reduceBEq, Int.reduceBNe, Int.reduceToNat, ne_eq, implies_true, bA]
            refine callI (answer_spec (readA s).1 (by omega) (by omega)) ?_
            simp (config := {maxSteps := 4000000}) only [U_law16_ReqBack, reduceIte, reduceCtorEq, Nat.reduceEqDiff, Nat.reduceAdd, Int.reduceLT, Int.reduceLE, Int.reduceNeg, Int.reduceEq, Nat.reduceLT, Nat.reduceSub, Nat.reduceMul, Nat.reduceBEq, Nat.reduceLeDiff, Int.reduceBEq, Int.reduceBNe, Int.reduceToNat, ne_eq, implies_true, bA]
            refine callI hawk ?_
            by_cases h3 : (readR s).2 = 0
            · have d3 : ((readR s).2 != 0) = false := by simpa using h3
              have k2 := (write_readR h3).2
              rw [k2]
              by_cases h4 : (readA s).2 = 0
              · have d4 : ((readA s).2 != 0) = false := by simpa using h4
                have k4 := (write_readA h4).2
                rw [k4]
                simp (config := {maxSteps := 4000000}) only [U_law16_ReqBack, d3, d4, beq_self_eq_true, reduceIte, reduceCtorEq, Nat.reduceEqDiff, Nat.reduceAdd, Int.reduceLT, Int.reduceLE, Int.reduceNeg, Int.reduceEq, Nat.reduceLT, Nat.reduceSub, Nat.reduceMul, Nat.reduceBEq, Nat.reduceLeDiff, Int.reduceBEq, Int.reduceBNe, Int.reduceToNat, ne_eq, implies_true, bA]
              · have d4 : ((readA s).2 != 0) = true := by simpa using h4
                simp (config := {maxSteps := 4000000}) only [U_law16_ReqBack, d3, d4, beq_self_eq_true, reduceIte, reduceCtorEq, Nat.reduceEqDiff, Nat.reduceAdd, Int.reduceLT, Int.reduceLE, Int.reduceNeg, Int.reduceEq, Nat.reduceLT, Nat.reduceSub, Nat.reduceMul, Nat.reduceBEq, Nat.reduceLeDiff, Int.reduceBEq, Int.reduceBNe, Int.reduceToNat, ne_eq, implies_true, bA]
            · have d3 : ((readR s).2 != 0) = true := by simpa using h3
              by_cases h4 : (readA s).2 = 0
              · have d4 : ((readA s).2 != 0) = false := by simpa using h4
                have k4 := (write_readA h4).2
                rw [k4]
                simp (config := {maxSteps := 4000000}) only [U_law16_ReqBack, d3, d4, beq_self_eq_true, reduceIte, reduceCtorEq, Nat.reduceEqDiff, Nat.reduceAdd, Int.reduceLT, Int.reduceLE, Int.reduceNeg, Int.reduceEq, Nat.reduceLT, Nat.reduceSub, Nat.reduceMul, Nat.reduceBEq, Nat.reduceLeDiff, Int.reduceBEq, Int.reduceBNe, Int.reduceToNat, ne_eq, implies_true, bA]
              · have d4 : ((readA s).2 != 0) = true := by simpa using h4
                simp (config := {maxSteps := 4000000}) only [U_law16_ReqBack, d3, d4, beq_self_eq_true, reduceIte, reduceCtorEq, Nat.reduceEqDiff, Nat.reduceAdd, Int.reduceLT, Int.reduceLE, Int.reduceNeg, Int.reduceEq, Nat.reduceLT, Nat.reduceSub, Nat.reduceMul, Nat.reduceBEq, Nat.reduceLeDiff, Int.reduceBEq, Int.reduceBNe, Int.reduceToNat, ne_eq, implies_true, bA]
set_option maxHeartbeats 1000000 in
theorem turned_law (p : Rq) (at0 : Int) (A : BitVec 32) (hp : p.da.length ≤ 9223372036854775807) (h1 : -9223372036854775808 ≤ at0) (h2 : at0 ≤ 9223372036854775807) : PCall Try.prog 5 [pR p, .int .i64 at0, .int .u32 A.toNat] (.bool true) := by
  refine pcall_go Try.func5 comp_law16_ReqTurned ?_
  simp (config := {maxSteps := 4000000}) only [U_law16_ReqTurned, rowR, reduceIte, reduceCtorEq, Nat.reduceEqDiff, Nat.reduceAdd, Int.reduceLT, Int.reduceLE, Int.reduceNeg, Int.reduceEq, Nat.reduceLT, Nat.reduceSub, Nat.reduceMul, Nat.reduceBEq, Nat.reduceLeDiff, Int.reduceBEq, Int.reduceBNe, Int.reduceToNat, ne_eq, implies_true, bA]
  refine callI (write_spec p hp) ?_
  cases hmay : mayR p with
  | false =>
    have hw : writeR p = ([], 1) := by rw [writeR, if_neg (by rw [hmay]; simp)]
    rw [hw]
    simp (config := {maxSteps := 4000000}) only [U_law16_ReqTurned, reduceIte, reduceCtorEq, Nat.reduceEqDiff, Nat.reduceAdd, Int.reduceLT, Int.reduceLE, Int.reduceNeg, Int.reduceEq, Nat.reduceLT, Nat.reduceSub, Nat.reduceMul, Nat.reduceBEq, Nat.reduceLeDiff, Int.reduceBEq, Int.reduceBNe, Int.reduceToNat, ne_eq, implies_true, bA]
    refine callI awake16_spec ?_
    simp (config := {maxSteps := 4000000}) only [U_law16_ReqTurned, beq_self_eq_true, reduceIte, reduceCtorEq, Nat.reduceEqDiff, Nat.reduceAdd, Int.reduceLT, Int.reduceLE, Int.reduceNeg, Int.reduceEq, Nat.reduceLT, Nat.reduceSub, Nat.reduceMul, Nat.reduceBEq, Nat.reduceLeDiff, Int.reduceBEq, Int.reduceBNe, Int.reduceToNat, ne_eq, implies_true, bA]
  | true =>
    have hw : writeR p = (sealS (bodyR p), 0) := by rw [writeR, if_pos hmay]
    have hwl := writeR_len p
    rw [hw] at hwl
    simp only [] at hwl
    rw [hw]
    have hrw := read_writeR p hmay
    obtain ⟨t, ht⟩ : ∃ t, t = sealS (bodyR p) := ⟨_, rfl⟩
    rw [← ht] at hrw hwl
    have htl : t.length = (bodyR p).length + 4 := by rw [ht, seal_len]
    obtain ⟨m, hm⟩ : ∃ m : Nat, (m : Int) = IntKind.i64.wrap (8 * (t.length : Int)) := ⟨8 * t.length, by rw [wrapI (by omega) (by omega)]; omega⟩
    have hm' : m = 8 * t.length := by rw [wrapI (by omega) (by omega)] at hm; omega
    obtain ⟨fi, hfi⟩ : ∃ fi : Nat, (fi : Int) = (IntKind.i64.wrap (at0.tmod m + m)).tmod m ∧ fi < m := by
      have hm0 : (0 : Int) < m := by omega
      have ha := Int.tmod_lt_of_pos at0 hm0
      have hb : -(m : Int) < at0.tmod m := by have := Int.lt_tmod_of_pos at0 hm0; omega
      rw [wrapI (by omega) (by omega)]
      have hc := Int.tmod_nonneg (m : Int) (show (0 : Int) ≤ at0.tmod m + m by omega)
      have hd := Int.tmod_lt_of_pos (at0.tmod m + m) hm0
      exact ⟨((at0.tmod m + m).tmod m).toNat, by omega, by omega⟩
    obtain ⟨hfi, hfl⟩ := hfi
    have hm0 : (m : Int) ≠ 0 := by omega
    have dm0 : ((m : Int) == 0) = false := by simpa using hm0
    simp (config := {maxSteps := 4000000}) only [U_law16_ReqTurned, ← ht, rowsO_bytes (l := t) rfl, byteRows_length, ← hm, dm0, binI_rem hm0, ← hfi, reduceIte, reduceCtorEq, Nat.reduceEqDiff, Nat.reduceAdd, Int.reduceLT, Int.reduceLE, Int.reduceNeg, Int.reduceEq, Nat.reduceLT, Nat.reduceSub, Nat.reduceMul, Nat.reduceBEq, Nat.reduceLeDiff, Int.reduceBEq, Int.reduceBNe, Int.reduceToNat, ne_eq, implies_true, bA]
    refine loopF (fun k : Nat => ⟨ofL [(2, .int .u32 A.toNat), (3, .ref 0 0), (7, .str t), (9, .osl 1 0 t.length), (10, .int .i64 m), (11, .int .i64 fi), (12, .int .i64 k)], [.box (rowR p), .list 1 (byteRows (flips t fi A k))]⟩) (fun k => k ≤ 32) (fun k => 32 - k) 0 ?_ (by omega) ?_
    · simp (config := {maxSteps := 4000000}) only [U_law16_ReqTurned, cutV_osl, reduceIte, reduceCtorEq, Nat.reduceEqDiff, Nat.reduceAdd, Int.reduceLT, Int.reduceLE, Int.reduceNeg, Int.reduceEq, Nat.reduceLT, Nat.reduceSub, Nat.reduceMul, Nat.reduceBEq, Nat.reduceLeDiff, Int.reduceBEq, Int.reduceBNe, Int.reduceToNat, ne_eq, implies_true, bA]
      rfl
    · intro k hk
      have hfl' := flips_length t fi A k
      simp (config := {maxSteps := 4000000}) only [U_law16_ReqTurned, reduceIte, reduceCtorEq, Nat.reduceEqDiff, Nat.reduceAdd, Int.reduceLT, Int.reduceLE, Int.reduceNeg, Int.reduceEq, Nat.reduceLT, Nat.reduceSub, Nat.reduceMul, Nat.reduceBEq, Nat.reduceLeDiff, Int.reduceBEq, Int.reduceBNe, Int.reduceToNat, ne_eq, implies_true, bA]
      refine ⟨fun h => ?_, fun h => ?_⟩
      · have hk31 : k ≤ 31 := by omega
        have e31 : IntKind.i64.wrap (31 - (k : Int)) = ((31 - k : Nat) : Int) := by rw [wrapI (by omega) (by omega)]; omega
        have eu : IntKind.u64.wrap ((31 - k : Nat) : Int) = ((31 - k : Nat) : Int) := wrapU (by omega) (by omega)
        have efk : IntKind.i64.wrap ((fi : Int) + (k : Int)) = ((fi + k : Nat) : Int) := by rw [wrapI (by omega) (by omega)]; omega
        simp (config := {maxSteps := 4000000}) only [U_law16_ReqTurned, e31, eu, efk, shr32, and32, reduceIte, reduceCtorEq, Nat.reduceEqDiff, Nat.reduceAdd, Int.reduceLT, Int.reduceLE, Int.reduceNeg, Int.reduceEq, Nat.reduceLT, Nat.reduceSub, Nat.reduceMul, Nat.reduceBEq, Nat.reduceLeDiff, Int.reduceBEq, Int.reduceBNe, Int.reduceToNat, ne_eq, implies_true, bA]
        by_cases hin : fi + k < m
        · have din : decide (((fi + k : Nat) : Int) < (m : Int)) = true := by simp; omega
          simp (config := {maxSteps := 4000000}) only [U_law16_ReqTurned, din, e31, eu, efk, shr32, and32, reduceIte, reduceCtorEq, Nat.reduceEqDiff, Nat.reduceAdd, Int.reduceLT, Int.reduceLE, Int.reduceNeg, Int.reduceEq, Nat.reduceLT, Nat.reduceSub, Nat.reduceMul, Nat.reduceBEq, Nat.reduceLeDiff, Int.reduceBEq, Int.reduceBNe, Int.reduceToNat, ne_eq, implies_true, bA]
          refine ⟨fun h => ?_, fun h => ?_⟩
          · have hlt8 : (fi + k) / 8 < (flips t fi A k).length := by rw [hfl']; omega
            have e8 : IntKind.i64.wrap (((fi + k : Nat) : Int).tdiv 8) = (((fi + k) / 8 : Nat) : Int) := by rw [show (8 : Int) = ((8 : Nat) : Int) from rfl, tdivN]; exact wrapI (by omega) (by omega)
            have em : ((fi + k : Nat) : Int).tmod 8 = (((fi + k) % 8 : Nat) : Int) := by rw [show (8 : Int) = ((8 : Nat) : Int) from rfl, tmodN]
            have eu8 : IntKind.u64.wrap (((fi + k) % 8 : Nat) : Int) = (((fi + k) % 8 : Nat) : Int) := wrapU (by omega) (by omega)
            have ebit : A.getLsbD (31 - k) = true := by rw [← bit_word A (31 - k)]; exact h
            have eget : (flips t fi A k).getD ((fi + k) / 8) 0 = (flips t fi A k)[(fi + k) / 8] := by rw [List.getD_eq_getElem?_getD, List.getElem?_eq_getElem hlt8]; rfl
            simp (config := {maxSteps := 4000000}) only [U_law16_ReqTurned, efk, e8, em, eu8, islO_bytes hfl'.symm hlt8, ldL_bytes hfl'.symm hlt8, shr128 ((fi + k) % 8) (by omega), xor8, stL_bytes hfl'.symm hlt8, wrapI (n := (k : Int) + 1) (by omega) (by omega), reduceIte, reduceCtorEq, Nat.reduceEqDiff, Nat.reduceAdd, Int.reduceLT, Int.reduceLE, Int.reduceNeg, Int.reduceEq, Nat.reduceLT, Nat.reduceSub, Nat.reduceMul, Nat.reduceBEq, Nat.reduceLeDiff, Int.reduceBEq, Int.reduceBNe, Int.reduceToNat, ne_eq, implies_true, bA]
            refine ⟨k + 1, ?_, by omega, by omega⟩
            rw [flips, if_pos ⟨by omega, ebit⟩, flipAt, eget]; rfl
          · have ebit : A.getLsbD (31 - k) = false := by rw [← bit_word A (31 - k)]; exact h
            refine ⟨k + 1, ?_, by omega, by omega⟩
            rw [flips, if_neg (by rw [ebit]; simp), wrapI (n := (k : Int) + 1) (by omega) (by omega)]; rfl
        · have din : decide (((fi + k : Nat) : Int) < (m : Int)) = false := by simp; omega
          simp (config := {maxSteps := 4000000}) only [U_law16_ReqTurned, din, reduceIte, reduceCtorEq, Nat.reduceEqDiff, Nat.reduceAdd, Int.reduceLT, Int.reduceLE, Int.reduceNeg, Int.reduceEq, Nat.reduceLT, Nat.reduceSub, Nat.reduceMul, Nat.reduceBEq, Nat.reduceLeDiff, Int.reduceBEq, Int.reduceBNe, Int.reduceToNat, ne_eq, implies_true, bA]
          refine ⟨k + 1, ?_, by omega, by omega⟩
          rw [flips, if_neg (by omega), wrapI (n := (k : Int) + 1) (by omega) (by omega)]; rfl
      · have : k = 32 := by simp at h; omega
        subst this
        simp (config := {maxSteps := 4000000}) only [U_law16_ReqTurned, rowsO_bytes hfl'.symm, b2sV_rows, bytesOf_byteRows, reduceIte, reduceCtorEq, Nat.reduceEqDiff, Nat.reduceAdd, Int.reduceLT, Int.reduceLE, Int.reduceNeg, Int.reduceEq, Nat.reduceLT, Nat.reduceSub, Nat.reduceMul, Nat.reduceBEq, Nat.reduceLeDiff, Int.reduceBEq, Int.reduceBNe, Int.reduceToNat, ne_eq, implies_true, bA]
        refine callI (read_spec (flips t fi A 32) (by omega)) ?_
        simp (config := {maxSteps := 4000000}) only [U_law16_ReqTurned, rowR, rowsO_bytes hfl'.symm, b2sV_rows, bytesOf_byteRows, reduceIte, reduceCtorEq, Nat.reduceEqDiff, Nat.reduceAdd, Int.reduceLT, Int.reduceLE, Int.reduceNeg, Int.reduceEq, Nat.reduceLT, Nat.reduceSub, Nat.reduceMul, Nat.reduceBEq, Nat.reduceLeDiff, Int.reduceBEq, Int.reduceBNe, Int.reduceToNat, ne_eq, implies_true, bA]
        by_cases hsame : flips t fi A 32 = t
        · have d1 : (flips t fi A 32 == t) = true := by simp [hsame]
          rw [hsame, hrw]
          have d1 : (t == t) = true := by simp
          simp (config := {maxSteps := 4000000}) only [U_law16_ReqTurned, d1, reduceIte, reduceCtorEq, Nat.reduceEqDiff, Nat.reduceAdd, Int.reduceLT, Int.reduceLE, Int.reduceNeg, Int.reduceEq, Nat.reduceLT, Nat.reduceSub, Nat.reduceMul, Nat.reduceBEq, Nat.reduceLeDiff, Int.reduceBEq, Int.reduceBNe, Int.reduceToNat, ne_eq, implies_true, bA]
          refine callI awake16_spec ?_
          simp (config := {maxSteps := 4000000}) only [U_law16_ReqTurned, rowR, beq_self_eq_true, reduceIte, reduceCtorEq, Nat.reduceEqDiff, Nat.reduceAdd, Int.reduceLT, Int.reduceLE, Int.reduceNeg, Int.reduceEq, Nat.reduceLT, Nat.reduceSub, Nat.reduceMul, Nat.reduceBEq, Nat.reduceLeDiff, Int.reduceBEq, Int.reduceBNe, Int.reduceToNat, ne_eq, implies_true, bA]
        · have d1 : (flips t fi A 32 == t) = false := by simp [hsame]
          have d2 : (openS (flips t fi A 32)).1 = [] ∧ (openS (flips t fi A 32)).2 = 6 := burst_open (bodyR p) t fi A ht hsame
          have d3 : readR (flips t fi A 32) = (zeroR, 6) := by rw [readR, if_pos (by rw [d2.2]; simp), d2.2]
          rw [d3]
          simp (config := {maxSteps := 4000000}) only [U_law16_ReqTurned, d1, reduceIte, reduceCtorEq, Nat.reduceEqDiff, Nat.reduceAdd, Int.reduceLT, Int.reduceLE, Int.reduceNeg, Int.reduceEq, Nat.reduceLT, Nat.reduceSub, Nat.reduceMul, Nat.reduceBEq, Nat.reduceLeDiff, Int.reduceBEq, Int.reduceBNe, Int.reduceToNat, ne_eq, implies_true, bA]
          refine callI awake16_spec ?_
          simp (config := {maxSteps := 4000000}) only [U_law16_ReqTurned, zeroR, rowR, beq_self_eq_true, reduceIte, reduceCtorEq, Nat.reduceEqDiff, Nat.reduceAdd, Int.reduceLT, Int.reduceLE, Int.reduceNeg, Int.reduceEq, Nat.reduceLT, Nat.reduceSub, Nat.reduceMul, Nat.reduceBEq, Nat.reduceLeDiff, Int.reduceBEq, Int.reduceBNe, Int.reduceToNat, ne_eq, implies_true, bA]

abbrev shR : Sh := .st [.int .i64, .int .i64, .int .i64, .int .i64, .str]
abbrev shA : Sh := .st [.int .i64, .str, .int .i64, .int .i64, .sl (.int .i64)]
theorem fit_rq {cs : List PV} (h : shR.fit cs) : ∃ p : Rq, cs = rowR p ∧ p.da.length ≤ 9223372036854775807 := by
  obtain ⟨_, _, rfl, ⟨x, rfl, _⟩, _, _, rfl, ⟨y, rfl, _⟩, _, _, rfl, ⟨z, rfl, _⟩, _, _, rfl, ⟨u, rfl, _⟩, _, _, rfl, ⟨s, rfl, hs⟩, rfl⟩ := h
  exact ⟨⟨x, y, z, u, s⟩, rfl, by simpa [maxLen] using hs⟩
theorem fit_rp {cs : List PV} (h : shA.fit cs) : ∃ p : Rp, cs = rowA p := by
  obtain ⟨_, _, rfl, ⟨x, rfl, _⟩, _, _, rfl, ⟨s, rfl, hs⟩, _, _, rfl, ⟨z, rfl, _⟩, _, _, rfl, ⟨u, rfl, _⟩, _, _, rfl, ⟨rows, rfl, _, hr⟩, rfl⟩ := h
  obtain ⟨l, rfl, _⟩ := rows_int rows hr
  exact ⟨⟨x, s, z, u, l⟩, rfl⟩
theorem kinds_fit (ps : List PV) (h : fitVs [.int .i64] ps) : PCall Try.prog 3 ps (.bool true) := by
  obtain ⟨_, _, rfl, ⟨k, hk, _⟩, rfl⟩ := h
  cases hk
  exact kinds_law k
theorem writes_fit (ps : List PV) (h : fitVs [shR, shA] ps) : PCall Try.prog 4 ps (.bool true) := by
  obtain ⟨_, _, rfl, ⟨cs, rfl, hx⟩, _, _, rfl, ⟨ds, rfl, hy⟩, rfl⟩ := h
  obtain ⟨p, rfl, hp⟩ := fit_rq hx
  obtain ⟨q, rfl⟩ := fit_rp hy
  exact writes_law p q hp
theorem reads_fit (ps : List PV) (h : fitVs [.str] ps) : PCall Try.prog 6 ps (.bool true) := by
  obtain ⟨_, _, rfl, ⟨s, hs, hl⟩, rfl⟩ := h
  cases hs
  exact reads_law s (by simpa [maxLen] using hl)
theorem back_fit (ps : List PV) (h : fitVs [shR, shA, .str] ps) : PCall Try.prog 7 ps (.bool true) := by
  obtain ⟨_, _, rfl, ⟨cs, rfl, hx⟩, _, _, rfl, ⟨ds, rfl, hy⟩, _, _, rfl, ⟨s, hs, hl⟩, rfl⟩ := h
  obtain ⟨p, rfl, hp⟩ := fit_rq hx
  obtain ⟨q, rfl⟩ := fit_rp hy
  cases hs
  exact back_law p q s hp (by simpa [maxLen] using hl)
theorem turned_fit (ps : List PV) (h : fitVs [shR, .int .i64, .int .u32] ps) : PCall Try.prog 5 ps (.bool true) := by
  obtain ⟨_, _, rfl, ⟨cs, rfl, hx⟩, _, _, rfl, ⟨b, hb, wb⟩, _, _, rfl, ⟨c, hc, wc⟩, rfl⟩ := h
  obtain ⟨p, rfl, hp⟩ := fit_rq hx
  cases hb; cases hc
  have := bounds_i64 wb
  rw [u32_word wc]
  exact turned_law p b _ hp this.1 this.2
end Go.Proofs.Ytoofeppepahpfaa.Aw
