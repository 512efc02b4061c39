/-
  The statements of layer 1, as contracts: each returns true.
-/
import Derived.Test.YtamaonfdonfkaaaPRef01
import Derived.Test.YtamaonfdonfkaaaAwOpen
set_option linter.unusedSimpArgs false
set_option linter.unusedVariables false
namespace Go.Proofs.Ytamaonfdonfkaaa.Aw
open Go.RowKit

theorem awake01_spec : PCall Try.prog 14 [] (.bool true) := by
  refine pcall_go Try.func14 comp_law01_awake ?_
  have h1 : putS 258 2 = ([2, 1], 0) := by decide
  have h2 : putS 256 1 = ([], 2) := by decide
  have h3 : getS [2, 1, 0] 0 2 = (258, 0) := by decide
  simp (config := {maxSteps := 4000000}) only [U_law01_awake, reduceIte, reduceCtorEq, Nat.reduceEqDiff, Nat.reduceAdd, Int.reduceLT, Int.reduceLE, Int.reduceNeg, Int.reduceEq, Nat.reduceLT, Nat.reduceSub, Nat.reduceMul, Nat.reduceBEq, Nat.reduceLeDiff, Int.reduceBEq, Int.reduceBNe, Int.reduceToNat, ne_eq, implies_true, bA]
  refine callI (put_spec 258 2 (by decide)) ?_
  simp (config := {maxSteps := 4000000}) only [U_law01_awake, h1, reduceIte, reduceCtorEq, Nat.reduceEqDiff, Nat.reduceAdd, Int.reduceLT, Int.reduceLE, Int.reduceNeg, Int.reduceEq, Nat.reduceLT, Nat.reduceSub, Nat.reduceMul, Nat.reduceBEq, Nat.reduceLeDiff, Int.reduceBEq, Int.reduceBNe, Int.reduceToNat, ne_eq, implies_true, bA]
  refine callI (put_spec 256 1 (by decide)) ?_
  simp (config := {maxSteps := 4000000}) only [U_law01_awake, h1, h2, reduceIte, reduceCtorEq, Nat.reduceEqDiff, Nat.reduceAdd, Int.reduceLT, Int.reduceLE, Int.reduceNeg, Int.reduceEq, Nat.reduceLT, Nat.reduceSub, Nat.reduceMul, Nat.reduceBEq, Nat.reduceLeDiff, Int.reduceBEq, Int.reduceBNe, Int.reduceToNat, ne_eq, implies_true, bA]
  refine callI (get_spec [2, 1, 0] 0 2 (by decide) (by decide) (by decide) (by decide) (by decide)) ?_
  simp (config := {maxSteps := 4000000}) only [U_law01_awake, h1, h2, h3, reduceIte, reduceCtorEq, Nat.reduceEqDiff, Nat.reduceAdd, Int.reduceLT, Int.reduceLE, Int.reduceNeg, Int.reduceEq, Nat.reduceLT, Nat.reduceSub, Nat.reduceMul, Nat.reduceBEq, Nat.reduceLeDiff, Int.reduceBEq, Int.reduceBNe, Int.reduceToNat, ne_eq, implies_true, bA]

theorem puts_law (n : Nat) (w : Int) (hn : n < 18446744073709551616) : PCall Try.prog 3 [.int .u64 n, .int .i64 w] (.bool true) := by
  refine pcall_go Try.func3 comp_law01_FieldPuts ?_
  simp (config := {maxSteps := 4000000}) only [U_law01_FieldPuts, reduceIte, reduceCtorEq, Nat.reduceEqDiff, Nat.reduceAdd, Int.reduceLT, Int.reduceLE, Int.reduceNeg, Int.reduceEq, Nat.reduceLT, Nat.reduceSub, Nat.reduceMul, Nat.reduceBEq, Nat.reduceLeDiff, Int.reduceBEq, Int.reduceBNe, Int.reduceToNat, ne_eq, implies_true, bA]
  refine callI (put_spec n w hn) ?_
  simp (config := {maxSteps := 4000000}) only [U_law01_FieldPuts, reduceIte, reduceCtorEq, Nat.reduceEqDiff, Nat.reduceAdd, Int.reduceLT, Int.reduceLE, Int.reduceNeg, Int.reduceEq, Nat.reduceLT, Nat.reduceSub, Nat.reduceMul, Nat.reduceBEq, Nat.reduceLeDiff, Int.reduceBEq, Int.reduceBNe, Int.reduceToNat, ne_eq, implies_true, bA]
  refine callI (rput_spec n w hn) ?_
  simp (config := {maxSteps := 4000000}) only [U_law01_FieldPuts, reduceIte, reduceCtorEq, Nat.reduceEqDiff, Nat.reduceAdd, Int.reduceLT, Int.reduceLE, Int.reduceNeg, Int.reduceEq, Nat.reduceLT, Nat.reduceSub, Nat.reduceMul, Nat.reduceBEq, Nat.reduceLeDiff, Int.reduceBEq, Int.reduceBNe, Int.reduceToNat, ne_eq, implies_true, bA]
  refine callI awake01_spec ?_
  simp (config := {maxSteps := 4000000}) only [U_law01_FieldPuts, reduceIte, reduceCtorEq, Nat.reduceEqDiff, Nat.reduceAdd, Int.reduceLT, Int.reduceLE, Int.reduceNeg, Int.reduceEq, Nat.reduceLT, Nat.reduceSub, Nat.reduceMul, Nat.reduceBEq, Nat.reduceLeDiff, Int.reduceBEq, Int.reduceBNe, Int.reduceToNat, ne_eq, implies_true, bA]

theorem gets_law (s : List UInt8) (a w : Int) (hs : s.length ≤ 9223372036854775807) (ha1 : -9223372036854775808 ≤ a) (ha2 : a ≤ 9223372036854775807) (hw1 : -9223372036854775808 ≤ w) (hw2 : w ≤ 9223372036854775807) :
    PCall Try.prog 4 [.str s, .int .i64 a, .int .i64 w] (.bool true) := by
  refine pcall_go Try.func4 comp_law01_FieldGets ?_
  simp (config := {maxSteps := 4000000}) only [U_law01_FieldGets, reduceIte, reduceCtorEq, Nat.reduceEqDiff, Nat.reduceAdd, Int.reduceLT, Int.reduceLE, Int.reduceNeg, Int.reduceEq, Nat.reduceLT, Nat.reduceSub, Nat.reduceMul, Nat.reduceBEq, Nat.reduceLeDiff, Int.reduceBEq, Int.reduceBNe, Int.reduceToNat, ne_eq, implies_true, bA]
  refine callI (get_spec s a w hs ha1 ha2 hw1 hw2) ?_
  simp (config := {maxSteps := 4000000}) only [U_law01_FieldGets, reduceIte, reduceCtorEq, Nat.reduceEqDiff, Nat.reduceAdd, Int.reduceLT, Int.reduceLE, Int.reduceNeg, Int.reduceEq, Nat.reduceLT, Nat.reduceSub, Nat.reduceMul, Nat.reduceBEq, Nat.reduceLeDiff, Int.reduceBEq, Int.reduceBNe, Int.reduceToNat, ne_eq, implies_true, bA]
  refine callI (rget_spec s a w hs ha1 ha2) ?_
  simp (config := {maxSteps := 4000000}) only [U_law01_FieldGets, reduceIte, reduceCtorEq, Nat.reduceEqDiff, Nat.reduceAdd, Int.reduceLT, Int.reduceLE, Int.reduceNeg, Int.reduceEq, Nat.reduceLT, Nat.reduceSub, Nat.reduceMul, Nat.reduceBEq, Nat.reduceLeDiff, Int.reduceBEq, Int.reduceBNe, Int.reduceToNat, ne_eq, implies_true, bA]
  refine callI awake01_spec ?_
  simp (config := {maxSteps := 4000000}) only [U_law01_FieldGets, reduceIte, reduceCtorEq, Nat.reduceEqDiff, Nat.reduceAdd, Int.reduceLT, Int.reduceLE, Int.reduceNeg, Int.reduceEq, Nat.reduceLT, Nat.reduceSub, Nat.reduceMul, Nat.reduceBEq, Nat.reduceLeDiff, Int.reduceBEq, Int.reduceBNe, Int.reduceToNat, ne_eq, implies_true, bA]

theorem takeL_len : ∀ (ws : List Int) (s : List UInt8) ns r, takeL s ws = some (ns, r) → ns.length = ws.length
  | [], s, ns, r, h => by simp [takeL] at h; simp [← h.1]
  | w :: ws, s, ns, r, h => by
    simp only [takeL] at h
    split at h
    · cases h
    · cases he : takeL (s.drop w.toNat) ws with
      | none => rw [he] at h; cases h
      | some x =>
        obtain ⟨a, b⟩ := x
        rw [he] at h
        simp only [Option.some.injEq, Prod.mk.injEq] at h
        rw [← h.1, List.length_cons, List.length_cons, takeL_len ws _ a b he]
theorem takeS_len (s : List UInt8) (ws : List Int) : (takeS s ws).1.length ≤ ws.length := by
  simp only [takeS]
  split
  · simp
  · cases he : takeL s ws with
    | none => simp
    | some x =>
      obtain ⟨a, b⟩ := x
      simp [takeL_len ws s a b he]
theorem takes_law (s : List UInt8) (ws : List Int) (hs : s.length ≤ 9223372036854775807) (hw0 : ws.length ≤ 9223372036854775807) :
    PCall Try.prog 7 [.str s, .slc (rowsZ .i64 ws)] (.bool true) := by
  refine pcall_go Try.func7 comp_law01_FieldTakes ?_
  by_cases h : ws.length ≤ 300
  · have d : decide ((300 : Int) < (ws.length : Int)) = false := by simp; omega
    have hlen : (takeS s ws).1.length ≤ 300 := Nat.le_trans (takeS_len s ws) h
    simp (config := {maxSteps := 4000000}) only [U_law01_FieldTakes, d, reduceIte, reduceCtorEq, Nat.reduceEqDiff, Nat.reduceAdd, Int.reduceLT, Int.reduceLE, Int.reduceNeg, Int.reduceEq, Nat.reduceLT, Nat.reduceSub, Nat.reduceMul, Nat.reduceBEq, Nat.reduceLeDiff, Int.reduceBEq, Int.reduceBNe, Int.reduceToNat, ne_eq, implies_true, bA]
    refine callI (take_spec s ws hs h) ?_
    simp (config := {maxSteps := 4000000}) only [U_law01_FieldTakes, reduceIte, reduceCtorEq, Nat.reduceEqDiff, Nat.reduceAdd, Int.reduceLT, Int.reduceLE, Int.reduceNeg, Int.reduceEq, Nat.reduceLT, Nat.reduceSub, Nat.reduceMul, Nat.reduceBEq, Nat.reduceLeDiff, Int.reduceBEq, Int.reduceBNe, Int.reduceToNat, ne_eq, implies_true, bA]
    refine callI (rtake_spec s ws hs h) ?_
    simp (config := {maxSteps := 4000000}) only [U_law01_FieldTakes, reduceIte, reduceCtorEq, Nat.reduceEqDiff, Nat.reduceAdd, Int.reduceLT, Int.reduceLE, Int.reduceNeg, Int.reduceEq, Nat.reduceLT, Nat.reduceSub, Nat.reduceMul, Nat.reduceBEq, Nat.reduceLeDiff, Int.reduceBEq, Int.reduceBNe, Int.reduceToNat, ne_eq, implies_true, bA]
    refine callI awake01_spec ?_
    simp (config := {maxSteps := 4000000}) only [U_law01_FieldTakes, reduceIte, reduceCtorEq, Nat.reduceEqDiff, Nat.reduceAdd, Int.reduceLT, Int.reduceLE, Int.reduceNeg, Int.reduceEq, Nat.reduceLT, Nat.reduceSub, Nat.reduceMul, Nat.reduceBEq, Nat.reduceLeDiff, Int.reduceBEq, Int.reduceBNe, Int.reduceToNat, ne_eq, implies_true, bA]
    refine callI (rsame_spec _ _ (by omega) (by omega)) ?_
    simp (config := {maxSteps := 4000000}) only [U_law01_FieldTakes, reduceIte, reduceCtorEq, Nat.reduceEqDiff, Nat.reduceAdd, Int.reduceLT, Int.reduceLE, Int.reduceNeg, Int.reduceEq, Nat.reduceLT, Nat.reduceSub, Nat.reduceMul, Nat.reduceBEq, Nat.reduceLeDiff, Int.reduceBEq, Int.reduceBNe, Int.reduceToNat, ne_eq, implies_true, bA]
  · have d : decide ((300 : Int) < (ws.length : Int)) = true := by simp; omega
    simp (config := {maxSteps := 4000000}) only [U_law01_FieldTakes, d, reduceIte, reduceCtorEq, Nat.reduceEqDiff, Nat.reduceAdd, Int.reduceLT, Int.reduceLE, Int.reduceNeg, Int.reduceEq, Nat.reduceLT, Nat.reduceSub, Nat.reduceMul, Nat.reduceBEq, Nat.reduceLeDiff, Int.reduceBEq, Int.reduceBNe, Int.reduceToNat, ne_eq, implies_true, bA]
    refine callI awake01_spec ?_
    simp (config := {maxSteps := 4000000}) only [U_law01_FieldTakes, reduceIte, reduceCtorEq, Nat.reduceEqDiff, Nat.reduceAdd, Int.reduceLT, Int.reduceLE, Int.reduceNeg, Int.reduceEq, Nat.reduceLT, Nat.reduceSub, Nat.reduceMul, Nat.reduceBEq, Nat.reduceLeDiff, Int.reduceBEq, Int.reduceBNe, Int.reduceToNat, ne_eq, implies_true, bA]
end Go.Proofs.Ytamaonfdonfkaaa.Aw
