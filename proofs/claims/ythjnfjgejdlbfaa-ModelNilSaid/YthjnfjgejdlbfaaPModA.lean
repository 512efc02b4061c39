/-
  The model's small functions: sizes, failures, names, how many sectors a request names.
-/
import Derived.Test.YthjnfjgejdlbfaaPMod
set_option linter.unusedSimpArgs false
set_option linter.unusedVariables false
namespace Go.Proofs.Ythjnfjgejdlbfaa.Aw
open Go.RowKit

structure Rq where
  op : Int
  id : Int
  fr : Int
  n : Int
  d : List UInt8
abbrev rowQ (q : Rq) : List PV := [.int .i64 q.op, .int .i64 q.id, .int .i64 q.fr, .int .i64 q.n, .str q.d]
abbrev pQ (q : Rq) : PV := .agg (rowQ q)
abbrev repP (e : Int) (d : List UInt8) (sz us : Int) (ids : PV) : PV := .agg [.int .i64 e, .str d, .int .i64 sz, .int .i64 us, ids]
abbrev failP (e : Int) : PV := repP e [] 0 0 (.slc [])

theorem sized_spec (n : Int) : PCall Try.prog 25 [.int .i64 n] (.bool (decide (0 ≤ n) && decide (n ≤ 16777216))) := by
  refine pcall_dr Try.func25 comp_model_sized ?_
  by_cases h0 : 0 ≤ n
  · have d : decide (0 ≤ n) = true := by simpa using h0
    simp (config := {maxSteps := 4000000}) only [U_model_sized, d, Bool.true_and, reduceIte, reduceCtorEq, Nat.reduceEqDiff, Nat.reduceAdd, Int.reduceLT, Int.reduceLE, Int.reduceNeg, Int.reduceEq, Nat.reduceLT, Nat.reduceSub, Nat.reduceMul, Nat.reduceBEq, Nat.reduceLeDiff, Int.reduceBEq, Int.reduceBNe, Int.reduceToNat, ne_eq, implies_true, bA]
  · have d : decide (0 ≤ n) = false := by simpa using h0
    simp (config := {maxSteps := 4000000}) only [U_model_sized, d, Bool.false_and, reduceIte, reduceCtorEq, Nat.reduceEqDiff, Nat.reduceAdd, Int.reduceLT, Int.reduceLE, Int.reduceNeg, Int.reduceEq, Nat.reduceLT, Nat.reduceSub, Nat.reduceMul, Nat.reduceBEq, Nat.reduceLeDiff, Int.reduceBEq, Int.reduceBNe, Int.reduceToNat, ne_eq, implies_true, bA]
theorem sized_no {n : Int} (h : n < 0 ∨ 16777216 < n) : PCall Try.prog 25 [.int .i64 n] (.bool false) := by
  have := sized_spec n
  rw [show (decide (0 ≤ n) && decide (n ≤ 16777216)) = false by rw [Bool.and_eq_false_iff]; simp; omega] at this
  exact this
theorem sized_yes {n : Int} (h : ¬ (n < 0 ∨ 16777216 < n)) : PCall Try.prog 25 [.int .i64 n] (.bool true) := by
  have := sized_spec n
  rw [show (decide (0 ≤ n) && decide (n ≤ 16777216)) = true by rw [Bool.and_eq_true]; simp; omega] at this
  exact this
theorem fail_spec (e : Int) : PCall Try.prog 26 [.int .i64 e] (failP e) := by
  refine pcall_dr Try.func26 comp_model_fail ?_
  simp (config := {maxSteps := 4000000}) only [U_model_fail, reduceIte, reduceCtorEq, Nat.reduceEqDiff, Nat.reduceAdd, Int.reduceLT, Int.reduceLE, Int.reduceNeg, Int.reduceEq, Nat.reduceLT, Nat.reduceSub, Nat.reduceMul, Nat.reduceBEq, Nat.reduceLeDiff, Int.reduceBEq, Int.reduceBNe, Int.reduceToNat, ne_eq, implies_true, bA]
theorem name_no {op : Int} (h : op < 1 ∨ 10 < op) : PCall Try.prog 24 [.int .i64 op] (.str [63]) := by
  refine pcall_dr Try.func24 comp_req_Name ?_
  by_cases h0 : op < 1
  · have d : decide (op < 1) = true := by simpa using h0
    simp (config := {maxSteps := 4000000}) only [U_req_Name, d, reduceIte, reduceCtorEq, Nat.reduceEqDiff, Nat.reduceAdd, Int.reduceLT, Int.reduceLE, Int.reduceNeg, Int.reduceEq, Nat.reduceLT, Nat.reduceSub, Nat.reduceMul, Nat.reduceBEq, Nat.reduceLeDiff, Int.reduceBEq, Int.reduceBNe, Int.reduceToNat, ne_eq, implies_true, bA]
  · have d : decide (op < 1) = false := by simpa using h0
    have d2 : decide (10 < op) = true := by simp; omega
    simp (config := {maxSteps := 4000000}) only [U_req_Name, d, d2, reduceIte, reduceCtorEq, Nat.reduceEqDiff, Nat.reduceAdd, Int.reduceLT, Int.reduceLE, Int.reduceNeg, Int.reduceEq, Nat.reduceLT, Nat.reduceSub, Nat.reduceMul, Nat.reduceBEq, Nat.reduceLeDiff, Int.reduceBEq, Int.reduceBNe, Int.reduceToNat, ne_eq, implies_true, bA]
theorem name_yes {op : Int} (h : ¬ (op < 1 ∨ 10 < op)) : ∃ s, PCall Try.prog 24 [.int .i64 op] (.str s) ∧ (s == [63]) = false := by
  have hh : op = 1 ∨ op = 2 ∨ op = 3 ∨ op = 4 ∨ op = 5 ∨ op = 6 ∨ op = 7 ∨ op = 8 ∨ op = 9 ∨ op = 10 := by omega
  have go : ∀ {op : Int} {s : List UInt8}, AWP Try.prog 0 ac_req_Name (AFin [.t 2] (.str s)) (init [.int .i64 op]) → PCall Try.prog 24 [.int .i64 op] (.str s) := fun h => pcall_dr Try.func24 comp_req_Name h
  rcases hh with rfl | rfl | rfl | rfl | rfl | rfl | rfl | rfl | rfl | rfl
  · refine ⟨[99, 114, 101, 97, 116, 101], go ?_, by decide⟩
    simp (config := {maxSteps := 4000000}) only [U_req_Name, idxaV_at, reduceIte, reduceCtorEq, Nat.reduceEqDiff, Nat.reduceAdd, Int.reduceLT, Int.reduceLE, Int.reduceNeg, Int.reduceEq, Nat.reduceLT, Nat.reduceSub, Nat.reduceMul, Nat.reduceBEq, Nat.reduceLeDiff, Int.reduceBEq, Int.reduceBNe, Int.reduceToNat, ne_eq, implies_true, bA]
  · refine ⟨[114, 101, 115, 105, 122, 101], go ?_, by decide⟩
    simp (config := {maxSteps := 4000000}) only [U_req_Name, idxaV_at, reduceIte, reduceCtorEq, Nat.reduceEqDiff, Nat.reduceAdd, Int.reduceLT, Int.reduceLE, Int.reduceNeg, Int.reduceEq, Nat.reduceLT, Nat.reduceSub, Nat.reduceMul, Nat.reduceBEq, Nat.reduceLeDiff, Int.reduceBEq, Int.reduceBNe, Int.reduceToNat, ne_eq, implies_true, bA]
  · refine ⟨[100, 101, 108, 101, 116, 101], go ?_, by decide⟩
    simp (config := {maxSteps := 4000000}) only [U_req_Name, idxaV_at, reduceIte, reduceCtorEq, Nat.reduceEqDiff, Nat.reduceAdd, Int.reduceLT, Int.reduceLE, Int.reduceNeg, Int.reduceEq, Nat.reduceLT, Nat.reduceSub, Nat.reduceMul, Nat.reduceBEq, Nat.reduceLeDiff, Int.reduceBEq, Int.reduceBNe, Int.reduceToNat, ne_eq, implies_true, bA]
  · refine ⟨[119, 114, 105, 116, 101], go ?_, by decide⟩
    simp (config := {maxSteps := 4000000}) only [U_req_Name, idxaV_at, reduceIte, reduceCtorEq, Nat.reduceEqDiff, Nat.reduceAdd, Int.reduceLT, Int.reduceLE, Int.reduceNeg, Int.reduceEq, Nat.reduceLT, Nat.reduceSub, Nat.reduceMul, Nat.reduceBEq, Nat.reduceLeDiff, Int.reduceBEq, Int.reduceBNe, Int.reduceToNat, ne_eq, implies_true, bA]
  · refine ⟨[122, 101, 114, 111], go ?_, by decide⟩
    simp (config := {maxSteps := 4000000}) only [U_req_Name, idxaV_at, reduceIte, reduceCtorEq, Nat.reduceEqDiff, Nat.reduceAdd, Int.reduceLT, Int.reduceLE, Int.reduceNeg, Int.reduceEq, Nat.reduceLT, Nat.reduceSub, Nat.reduceMul, Nat.reduceBEq, Nat.reduceLeDiff, Int.reduceBEq, Int.reduceBNe, Int.reduceToNat, ne_eq, implies_true, bA]
  · refine ⟨[116, 114, 105, 109], go ?_, by decide⟩
    simp (config := {maxSteps := 4000000}) only [U_req_Name, idxaV_at, reduceIte, reduceCtorEq, Nat.reduceEqDiff, Nat.reduceAdd, Int.reduceLT, Int.reduceLE, Int.reduceNeg, Int.reduceEq, Nat.reduceLT, Nat.reduceSub, Nat.reduceMul, Nat.reduceBEq, Nat.reduceLeDiff, Int.reduceBEq, Int.reduceBNe, Int.reduceToNat, ne_eq, implies_true, bA]
  · refine ⟨[114, 101, 97, 100], go ?_, by decide⟩
    simp (config := {maxSteps := 4000000}) only [U_req_Name, idxaV_at, reduceIte, reduceCtorEq, Nat.reduceEqDiff, Nat.reduceAdd, Int.reduceLT, Int.reduceLE, Int.reduceNeg, Int.reduceEq, Nat.reduceLT, Nat.reduceSub, Nat.reduceMul, Nat.reduceBEq, Nat.reduceLeDiff, Int.reduceBEq, Int.reduceBNe, Int.reduceToNat, ne_eq, implies_true, bA]
  · refine ⟨[102, 108, 117, 115, 104], go ?_, by decide⟩
    simp (config := {maxSteps := 4000000}) only [U_req_Name, idxaV_at, reduceIte, reduceCtorEq, Nat.reduceEqDiff, Nat.reduceAdd, Int.reduceLT, Int.reduceLE, Int.reduceNeg, Int.reduceEq, Nat.reduceLT, Nat.reduceSub, Nat.reduceMul, Nat.reduceBEq, Nat.reduceLeDiff, Int.reduceBEq, Int.reduceBNe, Int.reduceToNat, ne_eq, implies_true, bA]
  · refine ⟨[105, 110, 102, 111], go ?_, by decide⟩
    simp (config := {maxSteps := 4000000}) only [U_req_Name, idxaV_at, reduceIte, reduceCtorEq, Nat.reduceEqDiff, Nat.reduceAdd, Int.reduceLT, Int.reduceLE, Int.reduceNeg, Int.reduceEq, Nat.reduceLT, Nat.reduceSub, Nat.reduceMul, Nat.reduceBEq, Nat.reduceLeDiff, Int.reduceBEq, Int.reduceBNe, Int.reduceToNat, ne_eq, implies_true, bA]
  · refine ⟨[108, 105, 115, 116], go ?_, by decide⟩
    simp (config := {maxSteps := 4000000}) only [U_req_Name, idxaV_at, reduceIte, reduceCtorEq, Nat.reduceEqDiff, Nat.reduceAdd, Int.reduceLT, Int.reduceLE, Int.reduceNeg, Int.reduceEq, Nat.reduceLT, Nat.reduceSub, Nat.reduceMul, Nat.reduceBEq, Nat.reduceLeDiff, Int.reduceBEq, Int.reduceBNe, Int.reduceToNat, ne_eq, implies_true, bA]

/- how many sectors -/
def wN (q : Rq) : Int := if q.op = 4 then ((q.d.length / 32 : Nat) : Int) else q.n
def wB (q : Rq) : Bool := decide (1 ≤ wN q) && ((!(decide (q.op = 4) || decide (q.op = 7)) || decide (wN q ≤ 8)) && (!decide (q.op = 4) || decide (q.d.length % 32 = 0)))
theorem whole_spec (q : Rq) (hd : q.d.length ≤ 1000) : PCall Try.prog 51 [pQ q] (.tup [.int .i64 (wN q), .bool (wB q)]) := by
  refine pcall_dr Try.func51 comp_model_whole ?_
  have t1 := tdivN q.d.length 32
  have t2 := tmodN q.d.length 32
  simp only [Int.cast_ofNat_Int] at t1 t2
  have e1 : IntKind.i64.wrap ((q.d.length / 32 : Nat) : Int) = ((q.d.length / 32 : Nat) : Int) := wrapI (by omega) (by omega)
  by_cases c4 : q.op = 4
  · have d4 : (q.op == 4) = true := by simpa using c4
    have hw : wN q = ((q.d.length / 32 : Nat) : Int) := if_pos c4
    have hb : wB q = (decide (1 ≤ ((q.d.length / 32 : Nat) : Int)) && (decide (((q.d.length / 32 : Nat) : Int) ≤ 8) && decide (q.d.length % 32 = 0))) := by simp [wB, hw, c4]
    rw [hb, hw]
    by_cases c1 : (1 : Int) ≤ ((q.d.length / 32 : Nat) : Int)
    · have d1 : decide ((1 : Int) ≤ ((q.d.length / 32 : Nat) : Int)) = true := by simpa using c1
      by_cases c8 : ((q.d.length / 32 : Nat) : Int) ≤ 8
      · have d8 : decide (((q.d.length / 32 : Nat) : Int) ≤ 8) = true := by simpa using c8
        have d0 : (((q.d.length % 32 : Nat) : Int) == 0) = decide (q.d.length % 32 = 0) := by
          by_cases c : q.d.length % 32 = 0
          · simp [c]
          · rw [show (((q.d.length % 32 : Nat) : Int) == 0) = false by rw [beq_eq_false_iff_ne]; omega, decide_eq_false c]
        simp (config := {maxSteps := 4000000}) only [U_model_whole, d4, t1, t2, e1, d1, d8, d0, reduceIte, reduceCtorEq, Nat.reduceEqDiff, Nat.reduceAdd, Int.reduceLT, Int.reduceLE, Int.reduceNeg, Int.reduceEq, Nat.reduceLT, Nat.reduceSub, Nat.reduceMul, Nat.reduceBEq, Nat.reduceLeDiff, Int.reduceBEq, Int.reduceBNe, Int.reduceToNat, ne_eq, implies_true, bA]
      · have d8 : decide (((q.d.length / 32 : Nat) : Int) ≤ 8) = false := by simpa using c8
        simp (config := {maxSteps := 4000000}) only [U_model_whole, d4, t1, t2, e1, d1, d8, reduceIte, reduceCtorEq, Nat.reduceEqDiff, Nat.reduceAdd, Int.reduceLT, Int.reduceLE, Int.reduceNeg, Int.reduceEq, Nat.reduceLT, Nat.reduceSub, Nat.reduceMul, Nat.reduceBEq, Nat.reduceLeDiff, Int.reduceBEq, Int.reduceBNe, Int.reduceToNat, ne_eq, implies_true, bA]
    · have d1 : decide ((1 : Int) ≤ ((q.d.length / 32 : Nat) : Int)) = false := by simpa using c1
      simp (config := {maxSteps := 4000000}) only [U_model_whole, d4, t1, t2, e1, d1, reduceIte, reduceCtorEq, Nat.reduceEqDiff, Nat.reduceAdd, Int.reduceLT, Int.reduceLE, Int.reduceNeg, Int.reduceEq, Nat.reduceLT, Nat.reduceSub, Nat.reduceMul, Nat.reduceBEq, Nat.reduceLeDiff, Int.reduceBEq, Int.reduceBNe, Int.reduceToNat, ne_eq, implies_true, bA]
  · have d4 : (q.op == 4) = false := by simpa using c4
    have hw : wN q = q.n := if_neg c4
    by_cases c7 : q.op = 7
    · have d7 : (q.op == 7) = true := by simpa using c7
      have hb : wB q = (decide (1 ≤ q.n) && decide (q.n ≤ 8)) := by simp [wB, hw, c7]
      rw [hb, hw]
      by_cases c1 : 1 ≤ q.n
      · have d1 : decide (1 ≤ q.n) = true := by simpa using c1
        simp (config := {maxSteps := 4000000}) only [U_model_whole, d4, d7, d1, reduceIte, reduceCtorEq, Nat.reduceEqDiff, Nat.reduceAdd, Int.reduceLT, Int.reduceLE, Int.reduceNeg, Int.reduceEq, Nat.reduceLT, Nat.reduceSub, Nat.reduceMul, Nat.reduceBEq, Nat.reduceLeDiff, Int.reduceBEq, Int.reduceBNe, Int.reduceToNat, ne_eq, implies_true, bA]
      · have d1 : decide (1 ≤ q.n) = false := by simpa using c1
        simp (config := {maxSteps := 4000000}) only [U_model_whole, d4, d7, d1, reduceIte, reduceCtorEq, Nat.reduceEqDiff, Nat.reduceAdd, Int.reduceLT, Int.reduceLE, Int.reduceNeg, Int.reduceEq, Nat.reduceLT, Nat.reduceSub, Nat.reduceMul, Nat.reduceBEq, Nat.reduceLeDiff, Int.reduceBEq, Int.reduceBNe, Int.reduceToNat, ne_eq, implies_true, bA]
    · have d7 : (q.op == 7) = false := by simpa using c7
      have hb : wB q = decide (1 ≤ q.n) := by simp [wB, hw, c7, c4]
      rw [hb, hw]
      simp (config := {maxSteps := 4000000}) only [U_model_whole, d4, d7, reduceIte, reduceCtorEq, Nat.reduceEqDiff, Nat.reduceAdd, Int.reduceLT, Int.reduceLE, Int.reduceNeg, Int.reduceEq, Nat.reduceLT, Nat.reduceSub, Nat.reduceMul, Nat.reduceBEq, Nat.reduceLeDiff, Int.reduceBEq, Int.reduceBNe, Int.reduceToNat, ne_eq, implies_true, bA]
end Go.Proofs.Ythjnfjgejdlbfaa.Aw
