/-
  What the functions of the package 'req' compute, and the document's: which requests may be, and writing them.
-/
import Derived.Test.YtoofeppepahpfaaMReq
import Derived.Test.YtoofeppepahpfaaL02
set_option linter.unusedSimpArgs false
set_option linter.unusedVariables false
namespace Go.Proofs.Ytoofeppepahpfaa.Aw
open Go.RowKit

abbrev pR (q : Rq) : PV := .agg (rowR q)
abbrev pA (a : Rp) : PV := .agg (rowA a)
theorem head_spec : PCall Try.prog 26 [] (.slc (rowsZ .i64 [1, 4, 4, 4, 2])) := by
  refine pcall_go Try.func26 comp_req_head ?_
  simp (config := {maxSteps := 4000000}) only [U_req_head, reduceIte, reduceCtorEq, Nat.reduceEqDiff, Nat.reduceAdd, Int.reduceLT, Int.reduceLE, Int.reduceNeg, Int.reduceEq, Nat.reduceLT, Nat.reduceSub, Nat.reduceMul, Nat.reduceBEq, Nat.reduceLeDiff, Int.reduceBEq, Int.reduceBNe, Int.reduceToNat, ne_eq, implies_true, bA]
  rfl
theorem back_spec : PCall Try.prog 32 [] (.slc (rowsZ .i64 [1, 4, 4, 2, 1])) := by
  refine pcall_go Try.func32 comp_req_back ?_
  simp (config := {maxSteps := 4000000}) only [U_req_back, reduceIte, reduceCtorEq, Nat.reduceEqDiff, Nat.reduceAdd, Int.reduceLT, Int.reduceLE, Int.reduceNeg, Int.reduceEq, Nat.reduceLT, Nat.reduceSub, Nat.reduceMul, Nat.reduceBEq, Nat.reduceLeDiff, Int.reduceBEq, Int.reduceBNe, Int.reduceToNat, ne_eq, implies_true, bA]
  rfl
theorem named_5 (id fr n : Int) (da : List UInt8) : PCall Try.prog 22 [pR ⟨5, id, fr, n, da⟩] (.tup [pR ⟨5, id, fr, n, []⟩, .bool true]) := by
  refine pcall_go Try.func22 comp_req_named ?_
  simp (config := {maxSteps := 4000000}) only [U_req_named, rowR, reduceIte, reduceCtorEq, Nat.reduceEqDiff, Nat.reduceAdd, Int.reduceLT, Int.reduceLE, Int.reduceNeg, Int.reduceEq, Nat.reduceLT, Nat.reduceSub, Nat.reduceMul, Nat.reduceBEq, Nat.reduceLeDiff, Int.reduceBEq, Int.reduceBNe, Int.reduceToNat, ne_eq, implies_true, bA]
  rfl
theorem named_6 (id fr n : Int) (da : List UInt8) : PCall Try.prog 22 [pR ⟨6, id, fr, n, da⟩] (.tup [pR ⟨6, id, fr, n, []⟩, .bool true]) := by
  refine pcall_go Try.func22 comp_req_named ?_
  simp (config := {maxSteps := 4000000}) only [U_req_named, rowR, reduceIte, reduceCtorEq, Nat.reduceEqDiff, Nat.reduceAdd, Int.reduceLT, Int.reduceLE, Int.reduceNeg, Int.reduceEq, Nat.reduceLT, Nat.reduceSub, Nat.reduceMul, Nat.reduceBEq, Nat.reduceLeDiff, Int.reduceBEq, Int.reduceBNe, Int.reduceToNat, ne_eq, implies_true, bA]
  rfl
theorem named_7 (id fr n : Int) (da : List UInt8) : PCall Try.prog 22 [pR ⟨7, id, fr, n, da⟩] (.tup [pR ⟨7, id, fr, n, []⟩, .bool true]) := by
  refine pcall_go Try.func22 comp_req_named ?_
  simp (config := {maxSteps := 4000000}) only [U_req_named, rowR, reduceIte, reduceCtorEq, Nat.reduceEqDiff, Nat.reduceAdd, Int.reduceLT, Int.reduceLE, Int.reduceNeg, Int.reduceEq, Nat.reduceLT, Nat.reduceSub, Nat.reduceMul, Nat.reduceBEq, Nat.reduceLeDiff, Int.reduceBEq, Int.reduceBNe, Int.reduceToNat, ne_eq, implies_true, bA]
  rfl
theorem named_1 (id fr n : Int) (da : List UInt8) : PCall Try.prog 22 [pR ⟨1, id, fr, n, da⟩] (.tup [pR ⟨1, id, 0, n, []⟩, .bool true]) := by
  refine pcall_go Try.func22 comp_req_named ?_
  simp (config := {maxSteps := 4000000}) only [U_req_named, rowR, reduceIte, reduceCtorEq, Nat.reduceEqDiff, Nat.reduceAdd, Int.reduceLT, Int.reduceLE, Int.reduceNeg, Int.reduceEq, Nat.reduceLT, Nat.reduceSub, Nat.reduceMul, Nat.reduceBEq, Nat.reduceLeDiff, Int.reduceBEq, Int.reduceBNe, Int.reduceToNat, ne_eq, implies_true, bA]
  rfl
theorem named_2 (id fr n : Int) (da : List UInt8) : PCall Try.prog 22 [pR ⟨2, id, fr, n, da⟩] (.tup [pR ⟨2, id, 0, n, []⟩, .bool true]) := by
  refine pcall_go Try.func22 comp_req_named ?_
  simp (config := {maxSteps := 4000000}) only [U_req_named, rowR, reduceIte, reduceCtorEq, Nat.reduceEqDiff, Nat.reduceAdd, Int.reduceLT, Int.reduceLE, Int.reduceNeg, Int.reduceEq, Nat.reduceLT, Nat.reduceSub, Nat.reduceMul, Nat.reduceBEq, Nat.reduceLeDiff, Int.reduceBEq, Int.reduceBNe, Int.reduceToNat, ne_eq, implies_true, bA]
  rfl
theorem named_3 (id fr n : Int) (da : List UInt8) : PCall Try.prog 22 [pR ⟨3, id, fr, n, da⟩] (.tup [pR ⟨3, id, 0, 0, []⟩, .bool true]) := by
  refine pcall_go Try.func22 comp_req_named ?_
  simp (config := {maxSteps := 4000000}) only [U_req_named, rowR, reduceIte, reduceCtorEq, Nat.reduceEqDiff, Nat.reduceAdd, Int.reduceLT, Int.reduceLE, Int.reduceNeg, Int.reduceEq, Nat.reduceLT, Nat.reduceSub, Nat.reduceMul, Nat.reduceBEq, Nat.reduceLeDiff, Int.reduceBEq, Int.reduceBNe, Int.reduceToNat, ne_eq, implies_true, bA]
  rfl
theorem named_9 (id fr n : Int) (da : List UInt8) : PCall Try.prog 22 [pR ⟨9, id, fr, n, da⟩] (.tup [pR ⟨9, id, 0, 0, []⟩, .bool true]) := by
  refine pcall_go Try.func22 comp_req_named ?_
  simp (config := {maxSteps := 4000000}) only [U_req_named, rowR, reduceIte, reduceCtorEq, Nat.reduceEqDiff, Nat.reduceAdd, Int.reduceLT, Int.reduceLE, Int.reduceNeg, Int.reduceEq, Nat.reduceLT, Nat.reduceSub, Nat.reduceMul, Nat.reduceBEq, Nat.reduceLeDiff, Int.reduceBEq, Int.reduceBNe, Int.reduceToNat, ne_eq, implies_true, bA]
  rfl
theorem named_8 (id fr n : Int) (da : List UInt8) : PCall Try.prog 22 [pR ⟨8, id, fr, n, da⟩] (.tup [pR ⟨8, 0, 0, 0, []⟩, .bool true]) := by
  refine pcall_go Try.func22 comp_req_named ?_
  simp (config := {maxSteps := 4000000}) only [U_req_named, rowR, reduceIte, reduceCtorEq, Nat.reduceEqDiff, Nat.reduceAdd, Int.reduceLT, Int.reduceLE, Int.reduceNeg, Int.reduceEq, Nat.reduceLT, Nat.reduceSub, Nat.reduceMul, Nat.reduceBEq, Nat.reduceLeDiff, Int.reduceBEq, Int.reduceBNe, Int.reduceToNat, ne_eq, implies_true, bA]
  rfl
theorem named_10 (id fr n : Int) (da : List UInt8) : PCall Try.prog 22 [pR ⟨10, id, fr, n, da⟩] (.tup [pR ⟨10, 0, 0, 0, []⟩, .bool true]) := by
  refine pcall_go Try.func22 comp_req_named ?_
  simp (config := {maxSteps := 4000000}) only [U_req_named, rowR, reduceIte, reduceCtorEq, Nat.reduceEqDiff, Nat.reduceAdd, Int.reduceLT, Int.reduceLE, Int.reduceNeg, Int.reduceEq, Nat.reduceLT, Nat.reduceSub, Nat.reduceMul, Nat.reduceBEq, Nat.reduceLeDiff, Int.reduceBEq, Int.reduceBNe, Int.reduceToNat, ne_eq, implies_true, bA]
  rfl
theorem named_4 (id fr n : Int) (da : List UInt8) : PCall Try.prog 22 [pR ⟨4, id, fr, n, da⟩] (.tup [pR ⟨4, id, fr, 0, da⟩, .bool true]) := by
  refine pcall_go Try.func22 comp_req_named ?_
  simp (config := {maxSteps := 4000000}) only [U_req_named, rowR, AOps_tg, reduceIte, reduceCtorEq, Nat.reduceEqDiff, Nat.reduceAdd, Int.reduceLT, Int.reduceLE, Int.reduceNeg, Int.reduceEq, Nat.reduceLT, Nat.reduceSub, Nat.reduceMul, Nat.reduceBEq, Nat.reduceLeDiff, Int.reduceBEq, Int.reduceBNe, Int.reduceToNat, ne_eq, implies_true, bA]
  rfl
theorem named_none (op id fr n : Int) (da : List UInt8) (c5 : op ≠ 5) (c6 : op ≠ 6) (c7 : op ≠ 7) (c1 : op ≠ 1) (c2 : op ≠ 2) (c3 : op ≠ 3) (c9 : op ≠ 9) (c8 : op ≠ 8) (c10 : op ≠ 10) (c4 : op ≠ 4) : PCall Try.prog 22 [pR ⟨op, id, fr, n, da⟩] (.tup [pR zeroR, .bool false]) := by
  have d5 : (op == 5) = false := beq_eq_false_iff_ne.2 c5
  have d6 : (op == 6) = false := beq_eq_false_iff_ne.2 c6
  have d7 : (op == 7) = false := beq_eq_false_iff_ne.2 c7
  have d1 : (op == 1) = false := beq_eq_false_iff_ne.2 c1
  have d2 : (op == 2) = false := beq_eq_false_iff_ne.2 c2
  have d3 : (op == 3) = false := beq_eq_false_iff_ne.2 c3
  have d9 : (op == 9) = false := beq_eq_false_iff_ne.2 c9
  have d8 : (op == 8) = false := beq_eq_false_iff_ne.2 c8
  have d10 : (op == 10) = false := beq_eq_false_iff_ne.2 c10
  have d4 : (op == 4) = false := beq_eq_false_iff_ne.2 c4
  refine pcall_go Try.func22 comp_req_named ?_
  simp (config := {maxSteps := 4000000}) only [U_req_named, rowR, zeroR, d5, d6, d7, d1, d2, d3, d9, d8, d10, d4, reduceIte, reduceCtorEq, Nat.reduceEqDiff, Nat.reduceAdd, Int.reduceLT, Int.reduceLE, Int.reduceNeg, Int.reduceEq, Nat.reduceLT, Nat.reduceSub, Nat.reduceMul, Nat.reduceBEq, Nat.reduceLeDiff, Int.reduceBEq, Int.reduceBNe, Int.reduceToNat, ne_eq, implies_true, bA]
  rfl
theorem named_spec (q : Rq) : PCall Try.prog 22 [pR q] (.tup [pR (namedS q).1, .bool (namedS q).2]) := by
  obtain ⟨op, id, fr, n, da⟩ := q
  by_cases c5 : op = 5
  · subst c5
    have hn : namedS ⟨5, id, fr, n, da⟩ = (⟨5, id, fr, n, []⟩, true) := by simp [namedS]
    rw [hn]
    exact named_5 id fr n da
  by_cases c6 : op = 6
  · subst c6
    have hn : namedS ⟨6, id, fr, n, da⟩ = (⟨6, id, fr, n, []⟩, true) := by simp [namedS]
    rw [hn]
    exact named_6 id fr n da
  by_cases c7 : op = 7
  · subst c7
    have hn : namedS ⟨7, id, fr, n, da⟩ = (⟨7, id, fr, n, []⟩, true) := by simp [namedS]
    rw [hn]
    exact named_7 id fr n da
  by_cases c1 : op = 1
  · subst c1
    have hn : namedS ⟨1, id, fr, n, da⟩ = (⟨1, id, 0, n, []⟩, true) := by simp [namedS]
    rw [hn]
    exact named_1 id fr n da
  by_cases c2 : op = 2
  · subst c2
    have hn : namedS ⟨2, id, fr, n, da⟩ = (⟨2, id, 0, n, []⟩, true) := by simp [namedS]
    rw [hn]
    exact named_2 id fr n da
  by_cases c3 : op = 3
  · subst c3
    have hn : namedS ⟨3, id, fr, n, da⟩ = (⟨3, id, 0, 0, []⟩, true) := by simp [namedS]
    rw [hn]
    exact named_3 id fr n da
  by_cases c9 : op = 9
  · subst c9
    have hn : namedS ⟨9, id, fr, n, da⟩ = (⟨9, id, 0, 0, []⟩, true) := by simp [namedS]
    rw [hn]
    exact named_9 id fr n da
  by_cases c8 : op = 8
  · subst c8
    have hn : namedS ⟨8, id, fr, n, da⟩ = (⟨8, 0, 0, 0, []⟩, true) := by simp [namedS]
    rw [hn]
    exact named_8 id fr n da
  by_cases c10 : op = 10
  · subst c10
    have hn : namedS ⟨10, id, fr, n, da⟩ = (⟨10, 0, 0, 0, []⟩, true) := by simp [namedS]
    rw [hn]
    exact named_10 id fr n da
  by_cases c4 : op = 4
  · subst c4
    have hn : namedS ⟨4, id, fr, n, da⟩ = (⟨4, id, fr, 0, da⟩, true) := by simp [namedS]
    rw [hn]
    exact named_4 id fr n da
  have hn : namedS ⟨op, id, fr, n, da⟩ = (zeroR, false) := by simp [namedS, c5, c6, c7, c1, c2, c3, c9, c8, c10, c4]
  rw [hn]
  exact named_none op id fr n da c5 c6 c7 c1 c2 c3 c9 c8 c10 c4
end Go.Proofs.Ytoofeppepahpfaa.Aw
