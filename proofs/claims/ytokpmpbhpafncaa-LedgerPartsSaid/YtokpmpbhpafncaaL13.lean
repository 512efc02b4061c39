/-
  Statements of layer 13, as contracts: each returns true.
-/
import Derived.Test.YtokpmpbhpafncaaPLed
import Derived.Test.YtokpmpbhpafncaaPRef13
import Derived.Test.YtokpmpbhpafncaaAwFit
set_option linter.unusedSimpArgs false
set_option linter.unusedVariables false
namespace Go.Proofs.Ytokpmpbhpafncaa.Aw
open Go.RowKit

section
variable {ob : List AObj} {fp : List Nat} {b : Nat} {cap : Int} {A : List Acc}
theorem Led.ok (h : Led ob fp b cap A) : LedOk cap A := by obtain ⟨m, ck, E, h, rfl⟩ := h; exact h.led
theorem Led.open (h : Led ob fp b cap A) (id size : Int) : ICall Try.prog 11 [.ref b 0, .int .i64 id, .int .i64 size] ob (Mut ob fp b cap (openS A id size).1 (.int .i64 (openS A id size).2)) := by
  obtain ⟨m, ck, E, h, rfl⟩ := h; exact open_i h id size
theorem Led.close (h : Led ob fp b cap A) (id : Int) : ICall Try.prog 15 [.ref b 0, .int .i64 id] ob (Mut ob fp b cap (closeS A id).1 (.tup [.int .i64 (closeS A id).2.1, .int .i64 (closeS A id).2.2])) := by
  obtain ⟨m, ck, E, h, rfl⟩ := h; exact close_i h id
theorem Led.resize (h : Led ob fp b cap A) (id size : Int) : ICall Try.prog 22 [.ref b 0, .int .i64 id, .int .i64 size] ob (Mut ob fp b cap (resizeS A id size).1 (.int .i64 (resizeS A id size).2)) := by
  obtain ⟨m, ck, E, h, rfl⟩ := h; exact resize_i h id size
theorem Led.charge (h : Led ob fp b cap A) (id n : Int) : ICall Try.prog 12 [.ref b 0, .int .i64 id, .int .i64 n] ob (Mut ob fp b cap (chargeS cap A id n).1 (.int .i64 (chargeS cap A id n).2)) := by
  obtain ⟨m, ck, E, h, rfl⟩ := h; exact charge_i h id n
theorem Led.credit (h : Led ob fp b cap A) (id n : Int) : ICall Try.prog 18 [.ref b 0, .int .i64 id, .int .i64 n] ob (Mut ob fp b cap (creditS A id n).1 (.int .i64 (creditS A id n).2)) := by
  obtain ⟨m, ck, E, h, rfl⟩ := h; exact credit_i h id n
theorem Led.total (h : Led ob fp b cap A) : RCall Try.prog 13 [.ref b 0] ob (.int .i64 (sumA A)) := by obtain ⟨m, ck, E, h, rfl⟩ := h; exact total_r h
theorem Led.left (h : Led ob fp b cap A) : RCall Try.prog 14 [.ref b 0] ob (.int .i64 (cap - sumA A)) := by obtain ⟨m, ck, E, h, rfl⟩ := h; exact left_r h
theorem Led.of (h : Led ob fp b cap A) (id : Int) : RCall Try.prog 17 [.ref b 0, .int .i64 id] ob (.tup [.int .i64 (ofS A id).1, .int .i64 (ofS A id).2.1, .int .i64 (ofS A id).2.2]) := by obtain ⟨m, ck, E, h, rfl⟩ := h; exact of_r h id
theorem Led.ids (h : Led ob fp b cap A) : ICall Try.prog 16 [.ref b 0] ob fun r ob' => ∃ n, r = .osl n 0 A.length ∧ ob'[n]? = some (.list 1 (rowsZ .i64 (A.map (·.id)))) ∧ ∃ ex, ob' = ob ++ ex := by
  obtain ⟨m, ck, E, h, rfl⟩ := h
  refine callM (ids_i h) ?_
  rintro r ob' ⟨rfl, rfl⟩
  exact ⟨_, rfl, by simp, _, rfl⟩
end

theorem awake13_spec : PCall Try.prog 10 [] (.bool true) := by
  refine pcall_dr Try.func10 comp_law13_awake ?_
  simp (config := {maxSteps := 4000000}) only [U_law13_awake, reduceIte, reduceCtorEq, Nat.reduceEqDiff, Nat.reduceAdd, Int.reduceLT, Int.reduceLE, Int.reduceNeg, Int.reduceEq, Nat.reduceLT, Nat.reduceSub, Nat.reduceMul, Nat.reduceBEq, Nat.reduceLeDiff, Int.reduceBEq, Int.reduceBNe, Int.reduceToNat, ne_eq, implies_true, bA]
  refine callM (new_i [] 5 (by omega)) ?_
  rintro r o1 ⟨fp1, rfl, h1, _⟩
  generalize ([] : List AObj).length + 1 = b at h1 ⊢
  rw [show max (5 : Int) 0 = 5 by decide] at h1
  simp (config := {maxSteps := 4000000}) only [U_law13_awake, reduceIte, reduceCtorEq, Nat.reduceEqDiff, Nat.reduceAdd, Int.reduceLT, Int.reduceLE, Int.reduceNeg, Int.reduceEq, Nat.reduceLT, Nat.reduceSub, Nat.reduceMul, Nat.reduceBEq, Nat.reduceLeDiff, Int.reduceBEq, Int.reduceBNe, Int.reduceToNat, ne_eq, implies_true, bA]
  refine callM (h1.open 1 9) ?_
  rintro r o2 ⟨rfl, fp2, h2, _⟩
  rw [show openS [] 1 9 = ([⟨1, 9, 0⟩], 0) by decide] at h2 ⊢
  simp (config := {maxSteps := 4000000}) only [U_law13_awake, reduceIte, reduceCtorEq, Nat.reduceEqDiff, Nat.reduceAdd, Int.reduceLT, Int.reduceLE, Int.reduceNeg, Int.reduceEq, Nat.reduceLT, Nat.reduceSub, Nat.reduceMul, Nat.reduceBEq, Nat.reduceLeDiff, Int.reduceBEq, Int.reduceBNe, Int.reduceToNat, ne_eq, implies_true, bA]
  refine callM (h2.charge 1 4) ?_
  rintro r o3 ⟨rfl, fp3, h3, _⟩
  simp only at h3 ⊢
  rw [show chargeS 5 [⟨1, 9, 0⟩] 1 4 = ([⟨1, 9, 4⟩], 0) by decide] at h3 ⊢
  simp (config := {maxSteps := 4000000}) only [U_law13_awake, reduceIte, reduceCtorEq, Nat.reduceEqDiff, Nat.reduceAdd, Int.reduceLT, Int.reduceLE, Int.reduceNeg, Int.reduceEq, Nat.reduceLT, Nat.reduceSub, Nat.reduceMul, Nat.reduceBEq, Nat.reduceLeDiff, Int.reduceBEq, Int.reduceBNe, Int.reduceToNat, ne_eq, implies_true, bA]
  refine callM (h3.open 2 9) ?_
  rintro r o4 ⟨rfl, fp4, h4, _⟩
  simp only at h4 ⊢
  rw [show openS [⟨1, 9, 4⟩] 2 9 = ([⟨1, 9, 4⟩, ⟨2, 9, 0⟩], 0) by decide] at h4 ⊢
  simp (config := {maxSteps := 4000000}) only [U_law13_awake, reduceIte, reduceCtorEq, Nat.reduceEqDiff, Nat.reduceAdd, Int.reduceLT, Int.reduceLE, Int.reduceNeg, Int.reduceEq, Nat.reduceLT, Nat.reduceSub, Nat.reduceMul, Nat.reduceBEq, Nat.reduceLeDiff, Int.reduceBEq, Int.reduceBNe, Int.reduceToNat, ne_eq, implies_true, bA]
  refine callM (h4.charge 2 2) ?_
  rintro r o5 ⟨rfl, fp5, h5, _⟩
  simp only at h5 ⊢
  rw [show chargeS 5 [⟨1, 9, 4⟩, ⟨2, 9, 0⟩] 2 2 = ([⟨1, 9, 4⟩, ⟨2, 9, 0⟩], 71) by decide] at h5 ⊢
  simp (config := {maxSteps := 4000000}) only [U_law13_awake, reduceIte, reduceCtorEq, Nat.reduceEqDiff, Nat.reduceAdd, Int.reduceLT, Int.reduceLE, Int.reduceNeg, Int.reduceEq, Nat.reduceLT, Nat.reduceSub, Nat.reduceMul, Nat.reduceBEq, Nat.reduceLeDiff, Int.reduceBEq, Int.reduceBNe, Int.reduceToNat, ne_eq, implies_true, bA]
  refine callM (h5.credit 1 1) ?_
  rintro r o6 ⟨rfl, fp6, h6, _⟩
  simp only at h6 ⊢
  rw [show creditS [⟨1, 9, 4⟩, ⟨2, 9, 0⟩] 1 1 = ([⟨1, 9, 3⟩, ⟨2, 9, 0⟩], 0) by decide] at h6 ⊢
  simp (config := {maxSteps := 4000000}) only [U_law13_awake, reduceIte, reduceCtorEq, Nat.reduceEqDiff, Nat.reduceAdd, Int.reduceLT, Int.reduceLE, Int.reduceNeg, Int.reduceEq, Nat.reduceLT, Nat.reduceSub, Nat.reduceMul, Nat.reduceBEq, Nat.reduceLeDiff, Int.reduceBEq, Int.reduceBNe, Int.reduceToNat, ne_eq, implies_true, bA]
  refine callM (h6.charge 2 2) ?_
  rintro r o7 ⟨rfl, fp7, h7, _⟩
  simp only at h7 ⊢
  rw [show chargeS 5 [⟨1, 9, 3⟩, ⟨2, 9, 0⟩] 2 2 = ([⟨1, 9, 3⟩, ⟨2, 9, 2⟩], 0) by decide] at h7 ⊢
  have hs : sumA [⟨1, 9, 3⟩, ⟨2, 9, 2⟩] = 5 := by decide
  have hl := h7.left
  have ht := h7.total
  simp only at hl ht
  rw [hs] at hl ht
  rw [show (5 : Int) - 5 = 0 by decide] at hl
  simp (config := {maxSteps := 4000000}) only [U_law13_awake, reduceIte, reduceCtorEq, Nat.reduceEqDiff, Nat.reduceAdd, Int.reduceLT, Int.reduceLE, Int.reduceNeg, Int.reduceEq, Nat.reduceLT, Nat.reduceSub, Nat.reduceMul, Nat.reduceBEq, Nat.reduceLeDiff, Int.reduceBEq, Int.reduceBNe, Int.reduceToNat, ne_eq, implies_true, bA]
  refine callR hl ?_
  simp (config := {maxSteps := 4000000}) only [U_law13_awake, reduceIte, reduceCtorEq, Nat.reduceEqDiff, Nat.reduceAdd, Int.reduceLT, Int.reduceLE, Int.reduceNeg, Int.reduceEq, Nat.reduceLT, Nat.reduceSub, Nat.reduceMul, Nat.reduceBEq, Nat.reduceLeDiff, Int.reduceBEq, Int.reduceBNe, Int.reduceToNat, ne_eq, implies_true, bA]
  refine callR ht ?_
  simp (config := {maxSteps := 4000000}) only [U_law13_awake, reduceIte, reduceCtorEq, Nat.reduceEqDiff, Nat.reduceAdd, Int.reduceLT, Int.reduceLE, Int.reduceNeg, Int.reduceEq, Nat.reduceLT, Nat.reduceSub, Nat.reduceMul, Nat.reduceBEq, Nat.reduceLeDiff, Int.reduceBEq, Int.reduceBNe, Int.reduceToNat, ne_eq, implies_true, bA]

/- a nil ledger -/
section
variable (ob : List AObj) (id n : Int)
theorem closeNil_i : ICall Try.prog 15 [.nilp, .int .i64 id] ob fun r ob' => r = .tup [.int .i64 0, .int .i64 1] ∧ ob' = ob := by
  refine icall_dr Try.func15 comp_ledger_Ledger_Close ?_
  simp (config := {maxSteps := 4000000}) only [U_ledger_Ledger_Close, reduceIte, reduceCtorEq, Nat.reduceEqDiff, Nat.reduceAdd, Int.reduceLT, Int.reduceLE, Int.reduceNeg, Int.reduceEq, Nat.reduceLT, Nat.reduceSub, Nat.reduceMul, Nat.reduceBEq, Nat.reduceLeDiff, Int.reduceBEq, Int.reduceBNe, Int.reduceToNat, ne_eq, implies_true, bA]
  refine callM (getNil_i ob id) ?_
  rintro r ob' ⟨rfl, rfl⟩
  simp (config := {maxSteps := 4000000}) only [U_ledger_Ledger_Close, reduceIte, reduceCtorEq, Nat.reduceEqDiff, Nat.reduceAdd, Int.reduceLT, Int.reduceLE, Int.reduceNeg, Int.reduceEq, Nat.reduceLT, Nat.reduceSub, Nat.reduceMul, Nat.reduceBEq, Nat.reduceLeDiff, Int.reduceBEq, Int.reduceBNe, Int.reduceToNat, ne_eq, implies_true, bA]
  exact ⟨_, rfl, rfl⟩
theorem ofNil_r : RCall Try.prog 17 [.nilp, .int .i64 id] ob (.tup [.int .i64 0, .int .i64 0, .int .i64 1]) := by
  refine RCall.of (K := fun r ob' => r = .tup [.int .i64 0, .int .i64 0, .int .i64 1] ∧ ob' = ob) ?_ (fun r ob' h => ⟨h.1, [], by rw [h.2]; simp⟩) rfl
  refine icall_dr Try.func17 comp_ledger_Ledger_Of ?_
  simp (config := {maxSteps := 4000000}) only [U_ledger_Ledger_Of, reduceIte, reduceCtorEq, Nat.reduceEqDiff, Nat.reduceAdd, Int.reduceLT, Int.reduceLE, Int.reduceNeg, Int.reduceEq, Nat.reduceLT, Nat.reduceSub, Nat.reduceMul, Nat.reduceBEq, Nat.reduceLeDiff, Int.reduceBEq, Int.reduceBNe, Int.reduceToNat, ne_eq, implies_true, bA]
  refine callM (getNil_i ob id) ?_
  rintro r ob' ⟨rfl, rfl⟩
  simp (config := {maxSteps := 4000000}) only [U_ledger_Ledger_Of, reduceIte, reduceCtorEq, Nat.reduceEqDiff, Nat.reduceAdd, Int.reduceLT, Int.reduceLE, Int.reduceNeg, Int.reduceEq, Nat.reduceLT, Nat.reduceSub, Nat.reduceMul, Nat.reduceBEq, Nat.reduceLeDiff, Int.reduceBEq, Int.reduceBNe, Int.reduceToNat, ne_eq, implies_true, bA]
  exact ⟨_, rfl, rfl⟩
theorem openNil_i : ICall Try.prog 11 [.nilp, .int .i64 id, .int .i64 n] ob fun r ob' => r = .int .i64 1 ∧ ob' = ob := by
  refine icall_dr Try.func11 comp_ledger_Ledger_Open ?_
  simp (config := {maxSteps := 4000000}) only [U_ledger_Ledger_Open, reduceIte, reduceCtorEq, Nat.reduceEqDiff, Nat.reduceAdd, Int.reduceLT, Int.reduceLE, Int.reduceNeg, Int.reduceEq, Nat.reduceLT, Nat.reduceSub, Nat.reduceMul, Nat.reduceBEq, Nat.reduceLeDiff, Int.reduceBEq, Int.reduceBNe, Int.reduceToNat, ne_eq, implies_true, bA]
  exact ⟨_, rfl, rfl⟩
theorem resizeNil_i : ICall Try.prog 22 [.nilp, .int .i64 id, .int .i64 n] ob fun r ob' => r = .int .i64 1 ∧ ob' = ob := by
  refine icall_dr Try.func22 comp_ledger_Ledger_Resize ?_
  simp (config := {maxSteps := 4000000}) only [U_ledger_Ledger_Resize, reduceIte, reduceCtorEq, Nat.reduceEqDiff, Nat.reduceAdd, Int.reduceLT, Int.reduceLE, Int.reduceNeg, Int.reduceEq, Nat.reduceLT, Nat.reduceSub, Nat.reduceMul, Nat.reduceBEq, Nat.reduceLeDiff, Int.reduceBEq, Int.reduceBNe, Int.reduceToNat, ne_eq, implies_true, bA]
  refine callI (sized_spec n) ?_
  cases hd : decide (0 ≤ n) && decide (n ≤ 16777216) with
  | true =>
    simp (config := {maxSteps := 4000000}) only [U_ledger_Ledger_Resize, reduceIte, reduceCtorEq, Nat.reduceEqDiff, Nat.reduceAdd, Int.reduceLT, Int.reduceLE, Int.reduceNeg, Int.reduceEq, Nat.reduceLT, Nat.reduceSub, Nat.reduceMul, Nat.reduceBEq, Nat.reduceLeDiff, Int.reduceBEq, Int.reduceBNe, Int.reduceToNat, ne_eq, implies_true, bA]
    refine callM (getNil_i ob id) ?_
    rintro r ob' ⟨rfl, rfl⟩
    simp (config := {maxSteps := 4000000}) only [U_ledger_Ledger_Resize, reduceIte, reduceCtorEq, Nat.reduceEqDiff, Nat.reduceAdd, Int.reduceLT, Int.reduceLE, Int.reduceNeg, Int.reduceEq, Nat.reduceLT, Nat.reduceSub, Nat.reduceMul, Nat.reduceBEq, Nat.reduceLeDiff, Int.reduceBEq, Int.reduceBNe, Int.reduceToNat, ne_eq, implies_true, bA]
    exact ⟨_, rfl, rfl⟩
  | false =>
    simp (config := {maxSteps := 4000000}) only [U_ledger_Ledger_Resize, reduceIte, reduceCtorEq, Nat.reduceEqDiff, Nat.reduceAdd, Int.reduceLT, Int.reduceLE, Int.reduceNeg, Int.reduceEq, Nat.reduceLT, Nat.reduceSub, Nat.reduceMul, Nat.reduceBEq, Nat.reduceLeDiff, Int.reduceBEq, Int.reduceBNe, Int.reduceToNat, ne_eq, implies_true, bA]
    exact ⟨_, rfl, rfl⟩
theorem chargeNil_i : ICall Try.prog 12 [.nilp, .int .i64 id, .int .i64 n] ob fun r ob' => r = .int .i64 1 ∧ ob' = ob := by
  refine icall_dr Try.func12 comp_ledger_Ledger_Charge ?_
  cases hd : decide (n < 0) with
  | false =>
    simp (config := {maxSteps := 4000000}) only [U_ledger_Ledger_Charge, hd, reduceIte, reduceCtorEq, Nat.reduceEqDiff, Nat.reduceAdd, Int.reduceLT, Int.reduceLE, Int.reduceNeg, Int.reduceEq, Nat.reduceLT, Nat.reduceSub, Nat.reduceMul, Nat.reduceBEq, Nat.reduceLeDiff, Int.reduceBEq, Int.reduceBNe, Int.reduceToNat, ne_eq, implies_true, bA]
    refine callM (getNil_i ob id) ?_
    rintro r ob' ⟨rfl, rfl⟩
    simp (config := {maxSteps := 4000000}) only [U_ledger_Ledger_Charge, reduceIte, reduceCtorEq, Nat.reduceEqDiff, Nat.reduceAdd, Int.reduceLT, Int.reduceLE, Int.reduceNeg, Int.reduceEq, Nat.reduceLT, Nat.reduceSub, Nat.reduceMul, Nat.reduceBEq, Nat.reduceLeDiff, Int.reduceBEq, Int.reduceBNe, Int.reduceToNat, ne_eq, implies_true, bA]
    exact ⟨_, rfl, rfl⟩
  | true =>
    simp (config := {maxSteps := 4000000}) only [U_ledger_Ledger_Charge, hd, reduceIte, reduceCtorEq, Nat.reduceEqDiff, Nat.reduceAdd, Int.reduceLT, Int.reduceLE, Int.reduceNeg, Int.reduceEq, Nat.reduceLT, Nat.reduceSub, Nat.reduceMul, Nat.reduceBEq, Nat.reduceLeDiff, Int.reduceBEq, Int.reduceBNe, Int.reduceToNat, ne_eq, implies_true, bA]
    exact ⟨_, rfl, rfl⟩
theorem creditNil_i : ICall Try.prog 18 [.nilp, .int .i64 id, .int .i64 n] ob fun r ob' => r = .int .i64 1 ∧ ob' = ob := by
  refine icall_dr Try.func18 comp_ledger_Ledger_Credit ?_
  cases hd : decide (n < 0) with
  | false =>
    simp (config := {maxSteps := 4000000}) only [U_ledger_Ledger_Credit, hd, reduceIte, reduceCtorEq, Nat.reduceEqDiff, Nat.reduceAdd, Int.reduceLT, Int.reduceLE, Int.reduceNeg, Int.reduceEq, Nat.reduceLT, Nat.reduceSub, Nat.reduceMul, Nat.reduceBEq, Nat.reduceLeDiff, Int.reduceBEq, Int.reduceBNe, Int.reduceToNat, ne_eq, implies_true, bA]
    refine callM (getNil_i ob id) ?_
    rintro r ob' ⟨rfl, rfl⟩
    simp (config := {maxSteps := 4000000}) only [U_ledger_Ledger_Credit, reduceIte, reduceCtorEq, Nat.reduceEqDiff, Nat.reduceAdd, Int.reduceLT, Int.reduceLE, Int.reduceNeg, Int.reduceEq, Nat.reduceLT, Nat.reduceSub, Nat.reduceMul, Nat.reduceBEq, Nat.reduceLeDiff, Int.reduceBEq, Int.reduceBNe, Int.reduceToNat, ne_eq, implies_true, bA]
    exact ⟨_, rfl, rfl⟩
  | true =>
    simp (config := {maxSteps := 4000000}) only [U_ledger_Ledger_Credit, hd, reduceIte, reduceCtorEq, Nat.reduceEqDiff, Nat.reduceAdd, Int.reduceLT, Int.reduceLE, Int.reduceNeg, Int.reduceEq, Nat.reduceLT, Nat.reduceSub, Nat.reduceMul, Nat.reduceBEq, Nat.reduceLeDiff, Int.reduceBEq, Int.reduceBNe, Int.reduceToNat, ne_eq, implies_true, bA]
    exact ⟨_, rfl, rfl⟩
theorem idsNil_i : ICall Try.prog 16 [.nilp] ob fun r ob' => r = .slc [] ∧ ob' = ob := by
  refine icall_dr Try.func16 comp_ledger_Ledger_IDs ?_
  simp (config := {maxSteps := 4000000}) only [U_ledger_Ledger_IDs, reduceIte, reduceCtorEq, Nat.reduceEqDiff, Nat.reduceAdd, Int.reduceLT, Int.reduceLE, Int.reduceNeg, Int.reduceEq, Nat.reduceLT, Nat.reduceSub, Nat.reduceMul, Nat.reduceBEq, Nat.reduceLeDiff, Int.reduceBEq, Int.reduceBNe, Int.reduceToNat, ne_eq, implies_true, bA]
  exact ⟨_, rfl, rfl⟩
theorem totalNil_r : RCall Try.prog 13 [.nilp] ob (.int .i64 0) := by
  refine RCall.of (K := fun r ob' => r = .int .i64 0 ∧ ob' = ob) ?_ (fun r ob' h => ⟨h.1, [], by rw [h.2]; simp⟩) rfl
  refine icall_dr Try.func13 comp_ledger_Ledger_Total ?_
  simp (config := {maxSteps := 4000000}) only [U_ledger_Ledger_Total, reduceIte, reduceCtorEq, Nat.reduceEqDiff, Nat.reduceAdd, Int.reduceLT, Int.reduceLE, Int.reduceNeg, Int.reduceEq, Nat.reduceLT, Nat.reduceSub, Nat.reduceMul, Nat.reduceBEq, Nat.reduceLeDiff, Int.reduceBEq, Int.reduceBNe, Int.reduceToNat, ne_eq, implies_true, bA]
  refine callM (idsNil_i ob) ?_
  rintro r ob' ⟨rfl, rfl⟩
  simp (config := {maxSteps := 4000000}) only [U_ledger_Ledger_Total, reduceIte, reduceCtorEq, Nat.reduceEqDiff, Nat.reduceAdd, Int.reduceLT, Int.reduceLE, Int.reduceNeg, Int.reduceEq, Nat.reduceLT, Nat.reduceSub, Nat.reduceMul, Nat.reduceBEq, Nat.reduceLeDiff, Int.reduceBEq, Int.reduceBNe, Int.reduceToNat, ne_eq, implies_true, bA]
  refine loopF (fun i : Nat => ⟨ofL [(0, .nilp), (3, .int .i64 0), (7, .slc []), (8, .int .i64 0), (9, .int .i64 0)], ob'⟩) (fun i => True) (fun i => i) 0 ?_ trivial ?_
  · simp (config := {maxSteps := 4000000}) only [U_ledger_Ledger_Total, reduceIte, reduceCtorEq, Nat.reduceEqDiff, Nat.reduceAdd, Int.reduceLT, Int.reduceLE, Int.reduceNeg, Int.reduceEq, Nat.reduceLT, Nat.reduceSub, Nat.reduceMul, Nat.reduceBEq, Nat.reduceLeDiff, Int.reduceBEq, Int.reduceBNe, Int.reduceToNat, ne_eq, implies_true, bA]
    all_goals rfl
  · intro i _
    simp (config := {maxSteps := 4000000}) only [U_ledger_Ledger_Total, reduceIte, reduceCtorEq, Nat.reduceEqDiff, Nat.reduceAdd, Int.reduceLT, Int.reduceLE, Int.reduceNeg, Int.reduceEq, Nat.reduceLT, Nat.reduceSub, Nat.reduceMul, Nat.reduceBEq, Nat.reduceLeDiff, Int.reduceBEq, Int.reduceBNe, Int.reduceToNat, ne_eq, implies_true, bA]
    exact ⟨_, rfl, rfl⟩
theorem leftNil_r : RCall Try.prog 14 [.nilp] ob (.int .i64 0) := by
  refine RCall.of (K := fun r ob' => r = .int .i64 0 ∧ ob' = ob) ?_ (fun r ob' h => ⟨h.1, [], by rw [h.2]; simp⟩) rfl
  refine icall_dr Try.func14 comp_ledger_Ledger_Left ?_
  simp (config := {maxSteps := 4000000}) only [U_ledger_Ledger_Left, reduceIte, reduceCtorEq, Nat.reduceEqDiff, Nat.reduceAdd, Int.reduceLT, Int.reduceLE, Int.reduceNeg, Int.reduceEq, Nat.reduceLT, Nat.reduceSub, Nat.reduceMul, Nat.reduceBEq, Nat.reduceLeDiff, Int.reduceBEq, Int.reduceBNe, Int.reduceToNat, ne_eq, implies_true, bA]
  exact ⟨_, rfl, rfl⟩
end
theorem nil_law (id n : Int) : PCall Try.prog 8 [.int .i64 id, .int .i64 n] (.bool true) := by
  refine pcall_dr Try.func8 comp_law13_LedgerNil ?_
  have e0 : IntKind.i64.wrap ((0 : Int) + 0) = 0 := by decide
  simp (config := {maxSteps := 4000000}) only [U_law13_LedgerNil, reduceIte, reduceCtorEq, Nat.reduceEqDiff, Nat.reduceAdd, Int.reduceLT, Int.reduceLE, Int.reduceNeg, Int.reduceEq, Nat.reduceLT, Nat.reduceSub, Nat.reduceMul, Nat.reduceBEq, Nat.reduceLeDiff, Int.reduceBEq, Int.reduceBNe, Int.reduceToNat, ne_eq, implies_true, bA]
  refine callM (closeNil_i _ id) ?_
  rintro r ob' ⟨rfl, rfl⟩
  simp (config := {maxSteps := 4000000}) only [U_law13_LedgerNil, reduceIte, reduceCtorEq, Nat.reduceEqDiff, Nat.reduceAdd, Int.reduceLT, Int.reduceLE, Int.reduceNeg, Int.reduceEq, Nat.reduceLT, Nat.reduceSub, Nat.reduceMul, Nat.reduceBEq, Nat.reduceLeDiff, Int.reduceBEq, Int.reduceBNe, Int.reduceToNat, ne_eq, implies_true, bA]
  refine callR (ofNil_r _ id) ?_
  simp (config := {maxSteps := 4000000}) only [U_law13_LedgerNil, reduceIte, reduceCtorEq, Nat.reduceEqDiff, Nat.reduceAdd, Int.reduceLT, Int.reduceLE, Int.reduceNeg, Int.reduceEq, Nat.reduceLT, Nat.reduceSub, Nat.reduceMul, Nat.reduceBEq, Nat.reduceLeDiff, Int.reduceBEq, Int.reduceBNe, Int.reduceToNat, ne_eq, implies_true, bA]
  refine callI awake13_spec ?_
  simp (config := {maxSteps := 4000000}) only [U_law13_LedgerNil, reduceIte, reduceCtorEq, Nat.reduceEqDiff, Nat.reduceAdd, Int.reduceLT, Int.reduceLE, Int.reduceNeg, Int.reduceEq, Nat.reduceLT, Nat.reduceSub, Nat.reduceMul, Nat.reduceBEq, Nat.reduceLeDiff, Int.reduceBEq, Int.reduceBNe, Int.reduceToNat, ne_eq, implies_true, bA]
  refine callM (openNil_i _ id n) ?_
  rintro r ob' ⟨rfl, rfl⟩
  simp (config := {maxSteps := 4000000}) only [U_law13_LedgerNil, reduceIte, reduceCtorEq, Nat.reduceEqDiff, Nat.reduceAdd, Int.reduceLT, Int.reduceLE, Int.reduceNeg, Int.reduceEq, Nat.reduceLT, Nat.reduceSub, Nat.reduceMul, Nat.reduceBEq, Nat.reduceLeDiff, Int.reduceBEq, Int.reduceBNe, Int.reduceToNat, ne_eq, implies_true, bA]
  refine callM (resizeNil_i _ id n) ?_
  rintro r ob' ⟨rfl, rfl⟩
  simp (config := {maxSteps := 4000000}) only [U_law13_LedgerNil, reduceIte, reduceCtorEq, Nat.reduceEqDiff, Nat.reduceAdd, Int.reduceLT, Int.reduceLE, Int.reduceNeg, Int.reduceEq, Nat.reduceLT, Nat.reduceSub, Nat.reduceMul, Nat.reduceBEq, Nat.reduceLeDiff, Int.reduceBEq, Int.reduceBNe, Int.reduceToNat, ne_eq, implies_true, bA]
  refine callM (chargeNil_i _ id n) ?_
  rintro r ob' ⟨rfl, rfl⟩
  simp (config := {maxSteps := 4000000}) only [U_law13_LedgerNil, reduceIte, reduceCtorEq, Nat.reduceEqDiff, Nat.reduceAdd, Int.reduceLT, Int.reduceLE, Int.reduceNeg, Int.reduceEq, Nat.reduceLT, Nat.reduceSub, Nat.reduceMul, Nat.reduceBEq, Nat.reduceLeDiff, Int.reduceBEq, Int.reduceBNe, Int.reduceToNat, ne_eq, implies_true, bA]
  refine callM (creditNil_i _ id n) ?_
  rintro r ob' ⟨rfl, rfl⟩
  simp (config := {maxSteps := 4000000}) only [U_law13_LedgerNil, e0, reduceIte, reduceCtorEq, Nat.reduceEqDiff, Nat.reduceAdd, Int.reduceLT, Int.reduceLE, Int.reduceNeg, Int.reduceEq, Nat.reduceLT, Nat.reduceSub, Nat.reduceMul, Nat.reduceBEq, Nat.reduceLeDiff, Int.reduceBEq, Int.reduceBNe, Int.reduceToNat, ne_eq, implies_true, bA]
  refine callM (idsNil_i _) ?_
  rintro r ob' ⟨rfl, rfl⟩
  simp (config := {maxSteps := 4000000}) only [U_law13_LedgerNil, reduceIte, reduceCtorEq, Nat.reduceEqDiff, Nat.reduceAdd, Int.reduceLT, Int.reduceLE, Int.reduceNeg, Int.reduceEq, Nat.reduceLT, Nat.reduceSub, Nat.reduceMul, Nat.reduceBEq, Nat.reduceLeDiff, Int.reduceBEq, Int.reduceBNe, Int.reduceToNat, ne_eq, implies_true, bA]
  refine callR (totalNil_r _) ?_
  refine callR (leftNil_r _) ?_
  simp (config := {maxSteps := 4000000}) only [U_law13_LedgerNil, e0, reduceIte, reduceCtorEq, Nat.reduceEqDiff, Nat.reduceAdd, Int.reduceLT, Int.reduceLE, Int.reduceNeg, Int.reduceEq, Nat.reduceLT, Nat.reduceSub, Nat.reduceMul, Nat.reduceBEq, Nat.reduceLeDiff, Int.reduceBEq, Int.reduceBNe, Int.reduceToNat, ne_eq, implies_true, bA]

/- the document's ledger beside it -/
theorem neS (a : Int) : (a != a) = false := by simp
theorem ofS_get {A : List Acc} (hs : SortedA A) {i : Nat} (hi : i < A.length) : ofS A A[i].id = (A[i].size, A[i].used, 0) := by
  rw [ofS, getA_mem hs (List.getElem_mem hi)]
theorem same_r {ob fp b cap A} (h : Led ob fp b cap A) : RCall Try.prog 21 [.ref b 0, pvR cap A] ob (.bool true) := by
  refine RCall.of (K := fun r ob' => r = .bool true ∧ ∃ ex, ob' = ob ++ ex) ?_ (fun r ob' h => h) rfl
  refine icall_dr Try.func21 comp_law13_same ?_
  have hk := h.ok
  have h8 := hk.len
  simp (config := {maxSteps := 4000000}) only [U_law13_same, pvR, reduceIte, reduceCtorEq, Nat.reduceEqDiff, Nat.reduceAdd, Int.reduceLT, Int.reduceLE, Int.reduceNeg, Int.reduceEq, Nat.reduceLT, Nat.reduceSub, Nat.reduceMul, Nat.reduceBEq, Nat.reduceLeDiff, Int.reduceBEq, Int.reduceBNe, Int.reduceToNat, ne_eq, implies_true, bA]
  refine callM h.app.ids ?_
  rintro r ob' ⟨n, rfl, hn, ex, hex⟩
  have hL : Led ob' fp b cap A := by rw [hex]; exact h.app.app
  have hbx : ob'[ob.length]? = some (.box [.int .i64 cap, .slc (A.map row3)]) := by rw [hex]; simp
  have ht := rtotal_spec cap A hk
  simp only [pvR] at ht
  have h0 := sumA_nn hk.use
  have h1 := hk.c0
  have h2 := hk.c1
  have h3 := hk.sum
  have e1 : IntKind.i64.wrap (cap - sumA A) = cap - sumA A := wrapI (by omega) (by omega)
  have hl : (rowsZ .i64 (A.map (·.id))).length = A.length := by simp [rowsZ]
  have hr : rowsO (some (AObj.list 1 (rowsZ .i64 (A.map (·.id))))) 0 A.length = some (rowsZ .i64 (A.map (·.id))) := rowsO_all hl.symm
  have hr2 : rowsO (some (AObj.list 1 (List.map (fun n : Int => [PV.int .i64 n]) (List.map (fun x : Acc => x.id) A)))) 0 A.length = some (List.map (fun n : Int => [PV.int .i64 n]) (List.map (fun x : Acc => x.id) A)) := hr
  have hrl : ((rowsZ .i64 (A.map (·.id))).length : Int) = (A.length : Int) := by rw [hl]
  simp (config := {maxSteps := 4000000}) only [U_law13_same, hbx, hn, hr, hrl, neS, reduceIte, reduceCtorEq, Nat.reduceEqDiff, Nat.reduceAdd, Int.reduceLT, Int.reduceLE, Int.reduceNeg, Int.reduceEq, Nat.reduceLT, Nat.reduceSub, Nat.reduceMul, Nat.reduceBEq, Nat.reduceLeDiff, Int.reduceBEq, Int.reduceBNe, Int.reduceToNat, ne_eq, implies_true, bA]
  refine callR hL.total ?_
  refine callI ht ?_
  simp (config := {maxSteps := 4000000}) only [U_law13_same, hbx, neS, reduceIte, reduceCtorEq, Nat.reduceEqDiff, Nat.reduceAdd, Int.reduceLT, Int.reduceLE, Int.reduceNeg, Int.reduceEq, Nat.reduceLT, Nat.reduceSub, Nat.reduceMul, Nat.reduceBEq, Nat.reduceLeDiff, Int.reduceBEq, Int.reduceBNe, Int.reduceToNat, ne_eq, implies_true, bA]
  refine callR hL.left ?_
  refine callI ht ?_
  simp (config := {maxSteps := 4000000}) only [U_law13_same, hbx, e1, neS, reduceIte, reduceCtorEq, Nat.reduceEqDiff, Nat.reduceAdd, Int.reduceLT, Int.reduceLE, Int.reduceNeg, Int.reduceEq, Nat.reduceLT, Nat.reduceSub, Nat.reduceMul, Nat.reduceBEq, Nat.reduceLeDiff, Int.reduceBEq, Int.reduceBNe, Int.reduceToNat, ne_eq, implies_true, bA]
  refine loopF (fun i : Nat => ⟨ofL [(0, .ref b 0), (3, .ref ob.length 0), (5, .osl n 0 A.length), (6, .int .i64 (i : Int))], ob'⟩) (fun i => i ≤ A.length) (fun i => A.length - i) 0 ?_ (Nat.zero_le _) ?_
  · simp (config := {maxSteps := 4000000}) only [U_law13_same, reduceIte, reduceCtorEq, Nat.reduceEqDiff, Nat.reduceAdd, Int.reduceLT, Int.reduceLE, Int.reduceNeg, Int.reduceEq, Nat.reduceLT, Nat.reduceSub, Nat.reduceMul, Nat.reduceBEq, Nat.reduceLeDiff, Int.reduceBEq, Int.reduceBNe, Int.reduceToNat, ne_eq, implies_true, bA]
    all_goals rfl
  · intro i hi
    by_cases hlt : i < A.length
    · have d : decide ((i : Int) < (A.length : Int)) = true := by simpa using hlt
      have hlt' : i < (A.map (·.id)).length := by simpa using hlt
      have hid : (A.map (·.id))[i] = A[i].id := by simp
      have i1 := islO_map (g := fun n : Int => [PV.int .i64 n]) (l := A.map (·.id)) (e := 1) (o := n) (m := A.length) (k := .i64) (by simp) hlt'
      have i2 := ldL_map (g := fun n : Int => [PV.int .i64 n]) (l := A.map (·.id)) (e := 1) (len := A.length) (off := 0) (n := 1) (by simp) hlt' (by simp)
      rw [hid] at i2
      have hof := hL.of A[i].id
      rw [ofS_get hk.srt hlt] at hof
      have isl := fun ob fb => islV_map (ob := ob) (fb := fb) (k := .i64) (g := row3) hlt (row3_len _)
      have e2 : IntKind.i64.wrap ((i : Int) + 1) = ((i + 1 : Nat) : Int) := by rw [wrapI (by omega) (by omega)]; omega
      simp (config := {maxSteps := 4000000}) only [U_law13_same, d, hn, i1, i2, hbx, rowsZ, hr2, reduceIte, reduceCtorEq, Nat.reduceEqDiff, Nat.reduceAdd, Int.reduceLT, Int.reduceLE, Int.reduceNeg, Int.reduceEq, Nat.reduceLT, Nat.reduceSub, Nat.reduceMul, Nat.reduceBEq, Nat.reduceLeDiff, Int.reduceBEq, Int.reduceBNe, Int.reduceToNat, ne_eq, implies_true, bA]
      refine callR hof ?_
      simp (config := {maxSteps := 4000000}) only [U_law13_same, hn, i1, i2, hbx, rowsZ, isl, row3, e2, neS, reduceIte, reduceCtorEq, Nat.reduceEqDiff, Nat.reduceAdd, Int.reduceLT, Int.reduceLE, Int.reduceNeg, Int.reduceEq, Nat.reduceLT, Nat.reduceSub, Nat.reduceMul, Nat.reduceBEq, Nat.reduceLeDiff, Int.reduceBEq, Int.reduceBNe, Int.reduceToNat, ne_eq, implies_true, bA]
      exact ⟨i + 1, rfl, hlt, by omega⟩
    · have d : decide ((i : Int) < (A.length : Int)) = false := by simpa using hlt
      simp (config := {maxSteps := 4000000}) only [U_law13_same, d, hn, hr, hrl, reduceIte, reduceCtorEq, Nat.reduceEqDiff, Nat.reduceAdd, Int.reduceLT, Int.reduceLE, Int.reduceNeg, Int.reduceEq, Nat.reduceLT, Nat.reduceSub, Nat.reduceMul, Nat.reduceBEq, Nat.reduceLeDiff, Int.reduceBEq, Int.reduceBNe, Int.reduceToNat, ne_eq, implies_true, bA]
      exact ⟨_, rfl, rfl, _, by rw [hex, List.append_assoc]⟩

theorem ap0 (ob l : List AObj) : (ob ++ l)[ob.length]? = l[0]? := by rw [List.getElem?_append_right (Nat.le_refl _)]; simp
theorem ap1 (ob l : List AObj) : (ob ++ l)[ob.length + 1]? = l[1]? := by rw [List.getElem?_append_right (by omega)]; simp
theorem ap2 (ob l : List AObj) : (ob ++ l)[ob.length + 2]? = l[2]? := by rw [List.getElem?_append_right (by omega)]; simp
theorem ap3 (ob l : List AObj) : (ob ++ l)[ob.length + 3]? = l[3]? := by rw [List.getElem?_append_right (by omega)]; simp
theorem st0 (ob l : List AObj) (x : AObj) : (ob ++ l).set ob.length x = ob ++ l.set 0 x := by rw [List.set_append_right _ _ (Nat.le_refl _)]; simp
theorem st1 (ob l : List AObj) (x : AObj) : (ob ++ l).set (ob.length + 1) x = ob ++ l.set 1 x := by rw [List.set_append_right _ _ (by omega)]; simp
theorem st2 (ob l : List AObj) (x : AObj) : (ob ++ l).set (ob.length + 2) x = ob ++ l.set 2 x := by rw [List.set_append_right _ _ (by omega)]; simp
theorem st3 (ob l : List AObj) (x : AObj) : (ob ++ l).set (ob.length + 3) x = ob ++ l.set 3 x := by rw [List.set_append_right _ _ (by omega)]; simp
def doesS (cap : Int) (A : List Acc) (k id n : Int) : List Acc :=
  if k = 0 then (openS A id n).1 else if k = 1 then (closeS A id).1 else if k = 2 then (resizeS A id n).1 else
  if k = 3 then (chargeS cap A id n).1 else if k = 4 then (creditS A id n).1 else A
theorem Led.box {ob ex ob' : List AObj} {fp fp' b cap A b' A'} (h : Led ob fp b cap A) (hL : Led ob' fp' b' cap A') (hf : Frame (ob ++ ex) fp ob' fp') {j : Nat} (x : AObj) (h1 : ob.length ≤ j) (h2 : j < (ob ++ ex).length) :
    Led (ob'.set j x) fp' b' cap A' ∧ Frame ob fp (ob'.set j x) fp' := by
  have hj : j ∉ fp' := fun hc => by
    rcases hf.new j hc with h3 | h3
    · have := h.lt j h3; omega
    · omega
  refine ⟨hL.keep fun i hi => ?_, ?_⟩
  · rw [List.getElem?_set_ne]; rintro rfl; exact hj hi
  · refine ⟨by have := hf.len; simp at this ⊢; omega, fun i hi hn => ?_, fun i hi => ?_⟩
    · rw [List.getElem?_set_ne (by omega), hf.out i (by simp; omega) hn, List.getElem?_append_left hi]
    · rcases hf.new i hi with h3 | h3
      · exact .inl h3
      · exact .inr (by simp at h3; omega)
theorem setG {ob' : List AObj} {i : Nat} {a : AObj} (h : ob'[i]? = some a) (x : AObj) : (ob'.set i x)[i]? = some x := by
  rw [List.getElem?_set_self (lt_of_get h)]
theorem Led.old {ob ex ob' : List AObj} {fp fp' b cap A} (h : Led ob fp b cap A) (hf : Frame (ob ++ ex) fp ob' fp') {j : Nat} (h1 : ob.length ≤ j) (h2 : j < (ob ++ ex).length) : ob'[j]? = (ob ++ ex)[j]? :=
  hf.out j h2 fun hc => by have := h.lt j hc; omega
theorem does_i {ob fp b cap A} (h : Led ob fp b cap A) (k id n : Int) : ICall Try.prog 20 [.ref b 0, pvR cap A, .agg [.int .i64 k, .int .i64 id, .int .i64 n]] ob
    (Mut ob fp b cap (doesS cap A k id n) (.tup [pvR cap (doesS cap A k id n), .bool true])) := by
  refine icall_dr Try.func20 comp_law13_does ?_
  have hk := h.ok
  unfold doesS
  have eqs (a : Int) : (a == a) = true := by simp
  cases d0 : (k == 0) with
  | true =>
    have k0 : k = 0 := by simpa using d0
    have ho := ropen_spec cap A hk id n
    simp only [pvR] at ho
    rw [if_pos k0]
    simp (config := {maxSteps := 4000000}) only [U_law13_does, pvR, ap0, ap1, ap2, ap3, st0, st1, st2, st3, reduceIte, reduceCtorEq, Nat.reduceEqDiff, Nat.reduceAdd, Int.reduceLT, Int.reduceLE, Int.reduceNeg, Int.reduceEq, Nat.reduceLT, Nat.reduceSub, Nat.reduceMul, Nat.reduceBEq, Nat.reduceLeDiff, Int.reduceBEq, Int.reduceBNe, Int.reduceToNat, ne_eq, implies_true, bA]
    simp (config := {maxSteps := 4000000}) only [U_law13_does, d0, ap0, ap1, ap2, ap3, st0, st1, st2, st3, reduceIte, reduceCtorEq, Nat.reduceEqDiff, Nat.reduceAdd, Int.reduceLT, Int.reduceLE, Int.reduceNeg, Int.reduceEq, Nat.reduceLT, Nat.reduceSub, Nat.reduceMul, Nat.reduceBEq, Nat.reduceLeDiff, Int.reduceBEq, Int.reduceBNe, Int.reduceToNat, ne_eq, implies_true, bA]
    refine callI ho ?_
    simp (config := {maxSteps := 4000000}) only [U_law13_does, ap0, ap1, ap2, ap3, st0, st1, st2, st3, reduceIte, reduceCtorEq, Nat.reduceEqDiff, Nat.reduceAdd, Int.reduceLT, Int.reduceLE, Int.reduceNeg, Int.reduceEq, Nat.reduceLT, Nat.reduceSub, Nat.reduceMul, Nat.reduceBEq, Nat.reduceLeDiff, Int.reduceBEq, Int.reduceBNe, Int.reduceToNat, ne_eq, implies_true, bA]
    refine callM (h.app.open id n) ?_
    rintro r ob' ⟨rfl, fp', hL, hf⟩
    have g0 := h.old hf (j := ob.length) (by omega) (by simp)
    have g1 := h.old hf (j := ob.length + 1) (by omega) (by simp)
    have g2 := h.old hf (j := ob.length + 2) (by omega) (by simp)
    simp only [ap0, ap1, ap2, ap3, st0, st1, st2, st3, List.getElem?_cons_zero, List.getElem?_cons_succ] at g0 g1 g2
    simp (config := {maxSteps := 4000000}) only [U_law13_does, g0, g1, g2, setG g2, eqs, reduceIte, reduceCtorEq, Nat.reduceEqDiff, Nat.reduceAdd, Int.reduceLT, Int.reduceLE, Int.reduceNeg, Int.reduceEq, Nat.reduceLT, Nat.reduceSub, Nat.reduceMul, Nat.reduceBEq, Nat.reduceLeDiff, Int.reduceBEq, Int.reduceBNe, Int.reduceToNat, ne_eq, implies_true, bA]
    exact ⟨_, rfl, rfl, fp', h.box hL hf _ (by omega) (by simp)⟩
  | false =>
    have k0 : ¬ k = 0 := by simpa using d0
    cases d1 : (k == 1) with
    | true =>
      have k1 : k = 1 := by simpa using d1
      have ho := rclose_spec cap A hk id
      simp only [pvR] at ho
      rw [if_neg k0, if_pos k1]
      simp (config := {maxSteps := 4000000}) only [U_law13_does, pvR, ap0, ap1, ap2, ap3, st0, st1, st2, st3, reduceIte, reduceCtorEq, Nat.reduceEqDiff, Nat.reduceAdd, Int.reduceLT, Int.reduceLE, Int.reduceNeg, Int.reduceEq, Nat.reduceLT, Nat.reduceSub, Nat.reduceMul, Nat.reduceBEq, Nat.reduceLeDiff, Int.reduceBEq, Int.reduceBNe, Int.reduceToNat, ne_eq, implies_true, bA]
      simp (config := {maxSteps := 4000000}) only [U_law13_does, d0, ap0, ap1, ap2, ap3, st0, st1, st2, st3, reduceIte, reduceCtorEq, Nat.reduceEqDiff, Nat.reduceAdd, Int.reduceLT, Int.reduceLE, Int.reduceNeg, Int.reduceEq, Nat.reduceLT, Nat.reduceSub, Nat.reduceMul, Nat.reduceBEq, Nat.reduceLeDiff, Int.reduceBEq, Int.reduceBNe, Int.reduceToNat, ne_eq, implies_true, bA]
      simp (config := {maxSteps := 4000000}) only [U_law13_does, d1, ap0, ap1, ap2, ap3, st0, st1, st2, st3, reduceIte, reduceCtorEq, Nat.reduceEqDiff, Nat.reduceAdd, Int.reduceLT, Int.reduceLE, Int.reduceNeg, Int.reduceEq, Nat.reduceLT, Nat.reduceSub, Nat.reduceMul, Nat.reduceBEq, Nat.reduceLeDiff, Int.reduceBEq, Int.reduceBNe, Int.reduceToNat, ne_eq, implies_true, bA]
      refine callI ho ?_
      simp (config := {maxSteps := 4000000}) only [U_law13_does, ap0, ap1, ap2, ap3, st0, st1, st2, st3, reduceIte, reduceCtorEq, Nat.reduceEqDiff, Nat.reduceAdd, Int.reduceLT, Int.reduceLE, Int.reduceNeg, Int.reduceEq, Nat.reduceLT, Nat.reduceSub, Nat.reduceMul, Nat.reduceBEq, Nat.reduceLeDiff, Int.reduceBEq, Int.reduceBNe, Int.reduceToNat, ne_eq, implies_true, bA]
      refine callM (h.app.close id) ?_
      rintro r ob' ⟨rfl, fp', hL, hf⟩
      have g0 := h.old hf (j := ob.length) (by omega) (by simp)
      have g1 := h.old hf (j := ob.length + 1) (by omega) (by simp)
      have g2 := h.old hf (j := ob.length + 2) (by omega) (by simp)
      have g3 := h.old hf (j := ob.length + 3) (by omega) (by simp)
      simp only [ap0, ap1, ap2, ap3, st0, st1, st2, st3, List.getElem?_cons_zero, List.getElem?_cons_succ] at g0 g1 g2 g3
      simp (config := {maxSteps := 4000000}) only [U_law13_does, g0, g1, g2, g3, setG g2, eqs, reduceIte, reduceCtorEq, Nat.reduceEqDiff, Nat.reduceAdd, Int.reduceLT, Int.reduceLE, Int.reduceNeg, Int.reduceEq, Nat.reduceLT, Nat.reduceSub, Nat.reduceMul, Nat.reduceBEq, Nat.reduceLeDiff, Int.reduceBEq, Int.reduceBNe, Int.reduceToNat, ne_eq, implies_true, bA]
      exact ⟨_, rfl, rfl, fp', h.box hL hf _ (by omega) (by simp)⟩
    | false =>
      have k1 : ¬ k = 1 := by simpa using d1
      cases d2 : (k == 2) with
      | true =>
        have k2 : k = 2 := by simpa using d2
        have ho := rresize_spec cap A hk id n
        simp only [pvR] at ho
        rw [if_neg k0, if_neg k1, if_pos k2]
        simp (config := {maxSteps := 4000000}) only [U_law13_does, pvR, ap0, ap1, ap2, ap3, st0, st1, st2, st3, reduceIte, reduceCtorEq, Nat.reduceEqDiff, Nat.reduceAdd, Int.reduceLT, Int.reduceLE, Int.reduceNeg, Int.reduceEq, Nat.reduceLT, Nat.reduceSub, Nat.reduceMul, Nat.reduceBEq, Nat.reduceLeDiff, Int.reduceBEq, Int.reduceBNe, Int.reduceToNat, ne_eq, implies_true, bA]
        simp (config := {maxSteps := 4000000}) only [U_law13_does, d0, ap0, ap1, ap2, ap3, st0, st1, st2, st3, reduceIte, reduceCtorEq, Nat.reduceEqDiff, Nat.reduceAdd, Int.reduceLT, Int.reduceLE, Int.reduceNeg, Int.reduceEq, Nat.reduceLT, Nat.reduceSub, Nat.reduceMul, Nat.reduceBEq, Nat.reduceLeDiff, Int.reduceBEq, Int.reduceBNe, Int.reduceToNat, ne_eq, implies_true, bA]
        simp (config := {maxSteps := 4000000}) only [U_law13_does, d1, ap0, ap1, ap2, ap3, st0, st1, st2, st3, reduceIte, reduceCtorEq, Nat.reduceEqDiff, Nat.reduceAdd, Int.reduceLT, Int.reduceLE, Int.reduceNeg, Int.reduceEq, Nat.reduceLT, Nat.reduceSub, Nat.reduceMul, Nat.reduceBEq, Nat.reduceLeDiff, Int.reduceBEq, Int.reduceBNe, Int.reduceToNat, ne_eq, implies_true, bA]
        simp (config := {maxSteps := 4000000}) only [U_law13_does, d2, ap0, ap1, ap2, ap3, st0, st1, st2, st3, reduceIte, reduceCtorEq, Nat.reduceEqDiff, Nat.reduceAdd, Int.reduceLT, Int.reduceLE, Int.reduceNeg, Int.reduceEq, Nat.reduceLT, Nat.reduceSub, Nat.reduceMul, Nat.reduceBEq, Nat.reduceLeDiff, Int.reduceBEq, Int.reduceBNe, Int.reduceToNat, ne_eq, implies_true, bA]
        refine callI ho ?_
        simp (config := {maxSteps := 4000000}) only [U_law13_does, ap0, ap1, ap2, ap3, st0, st1, st2, st3, reduceIte, reduceCtorEq, Nat.reduceEqDiff, Nat.reduceAdd, Int.reduceLT, Int.reduceLE, Int.reduceNeg, Int.reduceEq, Nat.reduceLT, Nat.reduceSub, Nat.reduceMul, Nat.reduceBEq, Nat.reduceLeDiff, Int.reduceBEq, Int.reduceBNe, Int.reduceToNat, ne_eq, implies_true, bA]
        refine callM (h.app.resize id n) ?_
        rintro r ob' ⟨rfl, fp', hL, hf⟩
        have g0 := h.old hf (j := ob.length) (by omega) (by simp)
        have g1 := h.old hf (j := ob.length + 1) (by omega) (by simp)
        have g2 := h.old hf (j := ob.length + 2) (by omega) (by simp)
        simp only [ap0, ap1, ap2, ap3, st0, st1, st2, st3, List.getElem?_cons_zero, List.getElem?_cons_succ] at g0 g1 g2
        simp (config := {maxSteps := 4000000}) only [U_law13_does, g0, g1, g2, setG g2, eqs, reduceIte, reduceCtorEq, Nat.reduceEqDiff, Nat.reduceAdd, Int.reduceLT, Int.reduceLE, Int.reduceNeg, Int.reduceEq, Nat.reduceLT, Nat.reduceSub, Nat.reduceMul, Nat.reduceBEq, Nat.reduceLeDiff, Int.reduceBEq, Int.reduceBNe, Int.reduceToNat, ne_eq, implies_true, bA]
        exact ⟨_, rfl, rfl, fp', h.box hL hf _ (by omega) (by simp)⟩
      | false =>
        have k2 : ¬ k = 2 := by simpa using d2
        cases d3 : (k == 3) with
        | true =>
          have k3 : k = 3 := by simpa using d3
          have ho := rcharge_spec cap A hk id n
          simp only [pvR] at ho
          rw [if_neg k0, if_neg k1, if_neg k2, if_pos k3]
          simp (config := {maxSteps := 4000000}) only [U_law13_does, pvR, ap0, ap1, ap2, ap3, st0, st1, st2, st3, reduceIte, reduceCtorEq, Nat.reduceEqDiff, Nat.reduceAdd, Int.reduceLT, Int.reduceLE, Int.reduceNeg, Int.reduceEq, Nat.reduceLT, Nat.reduceSub, Nat.reduceMul, Nat.reduceBEq, Nat.reduceLeDiff, Int.reduceBEq, Int.reduceBNe, Int.reduceToNat, ne_eq, implies_true, bA]
          simp (config := {maxSteps := 4000000}) only [U_law13_does, d0, ap0, ap1, ap2, ap3, st0, st1, st2, st3, reduceIte, reduceCtorEq, Nat.reduceEqDiff, Nat.reduceAdd, Int.reduceLT, Int.reduceLE, Int.reduceNeg, Int.reduceEq, Nat.reduceLT, Nat.reduceSub, Nat.reduceMul, Nat.reduceBEq, Nat.reduceLeDiff, Int.reduceBEq, Int.reduceBNe, Int.reduceToNat, ne_eq, implies_true, bA]
          simp (config := {maxSteps := 4000000}) only [U_law13_does, d1, ap0, ap1, ap2, ap3, st0, st1, st2, st3, reduceIte, reduceCtorEq, Nat.reduceEqDiff, Nat.reduceAdd, Int.reduceLT, Int.reduceLE, Int.reduceNeg, Int.reduceEq, Nat.reduceLT, Nat.reduceSub, Nat.reduceMul, Nat.reduceBEq, Nat.reduceLeDiff, Int.reduceBEq, Int.reduceBNe, Int.reduceToNat, ne_eq, implies_true, bA]
          simp (config := {maxSteps := 4000000}) only [U_law13_does, d2, ap0, ap1, ap2, ap3, st0, st1, st2, st3, reduceIte, reduceCtorEq, Nat.reduceEqDiff, Nat.reduceAdd, Int.reduceLT, Int.reduceLE, Int.reduceNeg, Int.reduceEq, Nat.reduceLT, Nat.reduceSub, Nat.reduceMul, Nat.reduceBEq, Nat.reduceLeDiff, Int.reduceBEq, Int.reduceBNe, Int.reduceToNat, ne_eq, implies_true, bA]
          simp (config := {maxSteps := 4000000}) only [U_law13_does, d3, ap0, ap1, ap2, ap3, st0, st1, st2, st3, reduceIte, reduceCtorEq, Nat.reduceEqDiff, Nat.reduceAdd, Int.reduceLT, Int.reduceLE, Int.reduceNeg, Int.reduceEq, Nat.reduceLT, Nat.reduceSub, Nat.reduceMul, Nat.reduceBEq, Nat.reduceLeDiff, Int.reduceBEq, Int.reduceBNe, Int.reduceToNat, ne_eq, implies_true, bA]
          refine callI ho ?_
          simp (config := {maxSteps := 4000000}) only [U_law13_does, ap0, ap1, ap2, ap3, st0, st1, st2, st3, reduceIte, reduceCtorEq, Nat.reduceEqDiff, Nat.reduceAdd, Int.reduceLT, Int.reduceLE, Int.reduceNeg, Int.reduceEq, Nat.reduceLT, Nat.reduceSub, Nat.reduceMul, Nat.reduceBEq, Nat.reduceLeDiff, Int.reduceBEq, Int.reduceBNe, Int.reduceToNat, ne_eq, implies_true, bA]
          refine callM (h.app.charge id n) ?_
          rintro r ob' ⟨rfl, fp', hL, hf⟩
          have g0 := h.old hf (j := ob.length) (by omega) (by simp)
          have g1 := h.old hf (j := ob.length + 1) (by omega) (by simp)
          have g2 := h.old hf (j := ob.length + 2) (by omega) (by simp)
          simp only [ap0, ap1, ap2, ap3, st0, st1, st2, st3, List.getElem?_cons_zero, List.getElem?_cons_succ] at g0 g1 g2
          simp (config := {maxSteps := 4000000}) only [U_law13_does, g0, g1, g2, setG g2, eqs, reduceIte, reduceCtorEq, Nat.reduceEqDiff, Nat.reduceAdd, Int.reduceLT, Int.reduceLE, Int.reduceNeg, Int.reduceEq, Nat.reduceLT, Nat.reduceSub, Nat.reduceMul, Nat.reduceBEq, Nat.reduceLeDiff, Int.reduceBEq, Int.reduceBNe, Int.reduceToNat, ne_eq, implies_true, bA]
          exact ⟨_, rfl, rfl, fp', h.box hL hf _ (by omega) (by simp)⟩
        | false =>
          have k3 : ¬ k = 3 := by simpa using d3
          cases d4 : (k == 4) with
          | true =>
            have k4 : k = 4 := by simpa using d4
            have ho := rcredit_spec cap A hk id n
            simp only [pvR] at ho
            rw [if_neg k0, if_neg k1, if_neg k2, if_neg k3, if_pos k4]
            simp (config := {maxSteps := 4000000}) only [U_law13_does, pvR, ap0, ap1, ap2, ap3, st0, st1, st2, st3, reduceIte, reduceCtorEq, Nat.reduceEqDiff, Nat.reduceAdd, Int.reduceLT, Int.reduceLE, Int.reduceNeg, Int.reduceEq, Nat.reduceLT, Nat.reduceSub, Nat.reduceMul, Nat.reduceBEq, Nat.reduceLeDiff, Int.reduceBEq, Int.reduceBNe, Int.reduceToNat, ne_eq, implies_true, bA]
            simp (config := {maxSteps := 4000000}) only [U_law13_does, d0, ap0, ap1, ap2, ap3, st0, st1, st2, st3, reduceIte, reduceCtorEq, Nat.reduceEqDiff, Nat.reduceAdd, Int.reduceLT, Int.reduceLE, Int.reduceNeg, Int.reduceEq, Nat.reduceLT, Nat.reduceSub, Nat.reduceMul, Nat.reduceBEq, Nat.reduceLeDiff, Int.reduceBEq, Int.reduceBNe, Int.reduceToNat, ne_eq, implies_true, bA]
            simp (config := {maxSteps := 4000000}) only [U_law13_does, d1, ap0, ap1, ap2, ap3, st0, st1, st2, st3, reduceIte, reduceCtorEq, Nat.reduceEqDiff, Nat.reduceAdd, Int.reduceLT, Int.reduceLE, Int.reduceNeg, Int.reduceEq, Nat.reduceLT, Nat.reduceSub, Nat.reduceMul, Nat.reduceBEq, Nat.reduceLeDiff, Int.reduceBEq, Int.reduceBNe, Int.reduceToNat, ne_eq, implies_true, bA]
            simp (config := {maxSteps := 4000000}) only [U_law13_does, d2, ap0, ap1, ap2, ap3, st0, st1, st2, st3, reduceIte, reduceCtorEq, Nat.reduceEqDiff, Nat.reduceAdd, Int.reduceLT, Int.reduceLE, Int.reduceNeg, Int.reduceEq, Nat.reduceLT, Nat.reduceSub, Nat.reduceMul, Nat.reduceBEq, Nat.reduceLeDiff, Int.reduceBEq, Int.reduceBNe, Int.reduceToNat, ne_eq, implies_true, bA]
            simp (config := {maxSteps := 4000000}) only [U_law13_does, d3, ap0, ap1, ap2, ap3, st0, st1, st2, st3, reduceIte, reduceCtorEq, Nat.reduceEqDiff, Nat.reduceAdd, Int.reduceLT, Int.reduceLE, Int.reduceNeg, Int.reduceEq, Nat.reduceLT, Nat.reduceSub, Nat.reduceMul, Nat.reduceBEq, Nat.reduceLeDiff, Int.reduceBEq, Int.reduceBNe, Int.reduceToNat, ne_eq, implies_true, bA]
            simp (config := {maxSteps := 4000000}) only [U_law13_does, d4, ap0, ap1, ap2, ap3, st0, st1, st2, st3, reduceIte, reduceCtorEq, Nat.reduceEqDiff, Nat.reduceAdd, Int.reduceLT, Int.reduceLE, Int.reduceNeg, Int.reduceEq, Nat.reduceLT, Nat.reduceSub, Nat.reduceMul, Nat.reduceBEq, Nat.reduceLeDiff, Int.reduceBEq, Int.reduceBNe, Int.reduceToNat, ne_eq, implies_true, bA]
            refine callI ho ?_
            simp (config := {maxSteps := 4000000}) only [U_law13_does, ap0, ap1, ap2, ap3, st0, st1, st2, st3, reduceIte, reduceCtorEq, Nat.reduceEqDiff, Nat.reduceAdd, Int.reduceLT, Int.reduceLE, Int.reduceNeg, Int.reduceEq, Nat.reduceLT, Nat.reduceSub, Nat.reduceMul, Nat.reduceBEq, Nat.reduceLeDiff, Int.reduceBEq, Int.reduceBNe, Int.reduceToNat, ne_eq, implies_true, bA]
            refine callM (h.app.credit id n) ?_
            rintro r ob' ⟨rfl, fp', hL, hf⟩
            have g0 := h.old hf (j := ob.length) (by omega) (by simp)
            have g1 := h.old hf (j := ob.length + 1) (by omega) (by simp)
            have g2 := h.old hf (j := ob.length + 2) (by omega) (by simp)
            simp only [ap0, ap1, ap2, ap3, st0, st1, st2, st3, List.getElem?_cons_zero, List.getElem?_cons_succ] at g0 g1 g2
            simp (config := {maxSteps := 4000000}) only [U_law13_does, g0, g1, g2, setG g2, eqs, reduceIte, reduceCtorEq, Nat.reduceEqDiff, Nat.reduceAdd, Int.reduceLT, Int.reduceLE, Int.reduceNeg, Int.reduceEq, Nat.reduceLT, Nat.reduceSub, Nat.reduceMul, Nat.reduceBEq, Nat.reduceLeDiff, Int.reduceBEq, Int.reduceBNe, Int.reduceToNat, ne_eq, implies_true, bA]
            exact ⟨_, rfl, rfl, fp', h.box hL hf _ (by omega) (by simp)⟩
          | false =>
            have k4 : ¬ k = 4 := by simpa using d4
            rw [if_neg k0, if_neg k1, if_neg k2, if_neg k3, if_neg k4]
            simp (config := {maxSteps := 4000000}) only [U_law13_does, pvR, ap0, ap1, ap2, ap3, st0, st1, st2, st3, reduceIte, reduceCtorEq, Nat.reduceEqDiff, Nat.reduceAdd, Int.reduceLT, Int.reduceLE, Int.reduceNeg, Int.reduceEq, Nat.reduceLT, Nat.reduceSub, Nat.reduceMul, Nat.reduceBEq, Nat.reduceLeDiff, Int.reduceBEq, Int.reduceBNe, Int.reduceToNat, ne_eq, implies_true, bA]
            simp (config := {maxSteps := 4000000}) only [U_law13_does, d0, ap0, ap1, ap2, ap3, st0, st1, st2, st3, reduceIte, reduceCtorEq, Nat.reduceEqDiff, Nat.reduceAdd, Int.reduceLT, Int.reduceLE, Int.reduceNeg, Int.reduceEq, Nat.reduceLT, Nat.reduceSub, Nat.reduceMul, Nat.reduceBEq, Nat.reduceLeDiff, Int.reduceBEq, Int.reduceBNe, Int.reduceToNat, ne_eq, implies_true, bA]
            simp (config := {maxSteps := 4000000}) only [U_law13_does, d1, ap0, ap1, ap2, ap3, st0, st1, st2, st3, reduceIte, reduceCtorEq, Nat.reduceEqDiff, Nat.reduceAdd, Int.reduceLT, Int.reduceLE, Int.reduceNeg, Int.reduceEq, Nat.reduceLT, Nat.reduceSub, Nat.reduceMul, Nat.reduceBEq, Nat.reduceLeDiff, Int.reduceBEq, Int.reduceBNe, Int.reduceToNat, ne_eq, implies_true, bA]
            simp (config := {maxSteps := 4000000}) only [U_law13_does, d2, ap0, ap1, ap2, ap3, st0, st1, st2, st3, reduceIte, reduceCtorEq, Nat.reduceEqDiff, Nat.reduceAdd, Int.reduceLT, Int.reduceLE, Int.reduceNeg, Int.reduceEq, Nat.reduceLT, Nat.reduceSub, Nat.reduceMul, Nat.reduceBEq, Nat.reduceLeDiff, Int.reduceBEq, Int.reduceBNe, Int.reduceToNat, ne_eq, implies_true, bA]
            simp (config := {maxSteps := 4000000}) only [U_law13_does, d3, ap0, ap1, ap2, ap3, st0, st1, st2, st3, reduceIte, reduceCtorEq, Nat.reduceEqDiff, Nat.reduceAdd, Int.reduceLT, Int.reduceLE, Int.reduceNeg, Int.reduceEq, Nat.reduceLT, Nat.reduceSub, Nat.reduceMul, Nat.reduceBEq, Nat.reduceLeDiff, Int.reduceBEq, Int.reduceBNe, Int.reduceToNat, ne_eq, implies_true, bA]
            simp (config := {maxSteps := 4000000}) only [U_law13_does, d4, ap0, ap1, ap2, ap3, st0, st1, st2, st3, reduceIte, reduceCtorEq, Nat.reduceEqDiff, Nat.reduceAdd, Int.reduceLT, Int.reduceLE, Int.reduceNeg, Int.reduceEq, Nat.reduceLT, Nat.reduceSub, Nat.reduceMul, Nat.reduceBEq, Nat.reduceLeDiff, Int.reduceBEq, Int.reduceBNe, Int.reduceToNat, ne_eq, implies_true, bA]
            exact ⟨_, rfl, rfl, fp, h.app, Frame.app _ _ _⟩

def act3 (x : Int × Int × Int) : List PV := [.int .i64 x.1, .int .i64 x.2.1, .int .i64 x.2.2]
theorem act3_len (x : Int × Int × Int) : (act3 x).length = 3 := rfl
theorem ofS_zero {cap : Int} {A : List Acc} (h : LedOk cap A) : ofS A 0 = (0, 0, 4) := by
  cases hg : getA 0 A with
  | none => rw [ofS, hg]
  | some a =>
    have := getA_some hg
    have := h.ids a this.1
    omega
theorem plays_law (c : Int) (L : List (Int × Int × Int)) (hc : c ≤ 9223372036854775807) : PCall Try.prog 7 [.int .i64 c, .slc (L.map act3)] (.bool true) := by
  refine pcall_dr Try.func7 comp_law13_LedgerPlays ?_
  have hn := rnew_spec c
  simp only [pvR] at hn
  simp (config := {maxSteps := 4000000}) only [U_law13_LedgerPlays, reduceIte, reduceCtorEq, Nat.reduceEqDiff, Nat.reduceAdd, Int.reduceLT, Int.reduceLE, Int.reduceNeg, Int.reduceEq, Nat.reduceLT, Nat.reduceSub, Nat.reduceMul, Nat.reduceBEq, Nat.reduceLeDiff, Int.reduceBEq, Int.reduceBNe, Int.reduceToNat, ne_eq, implies_true, bA]
  refine callM (new_i [] c hc) ?_
  rintro r o1 ⟨fp1, rfl, h1, hf1⟩
  generalize ([] : List AObj).length + 1 = b at h1 ⊢
  obtain ⟨cap, hcap⟩ : ∃ cap, max c 0 = cap := ⟨_, rfl⟩
  rw [hcap] at h1 hn
  simp (config := {maxSteps := 4000000}) only [U_law13_LedgerPlays, reduceIte, reduceCtorEq, Nat.reduceEqDiff, Nat.reduceAdd, Int.reduceLT, Int.reduceLE, Int.reduceNeg, Int.reduceEq, Nat.reduceLT, Nat.reduceSub, Nat.reduceMul, Nat.reduceBEq, Nat.reduceLeDiff, Int.reduceBEq, Int.reduceBNe, Int.reduceToNat, ne_eq, implies_true, bA]
  refine callI hn ?_
  simp (config := {maxSteps := 4000000}) only [U_law13_LedgerPlays, ap0, st0, reduceIte, reduceCtorEq, Nat.reduceEqDiff, Nat.reduceAdd, Int.reduceLT, Int.reduceLE, Int.reduceNeg, Int.reduceEq, Nat.reduceLT, Nat.reduceSub, Nat.reduceMul, Nat.reduceBEq, Nat.reduceLeDiff, Int.reduceBEq, Int.reduceBNe, Int.reduceToNat, ne_eq, implies_true, bA]
  refine callI awake13_spec ?_
  simp (config := {maxSteps := 4000000}) only [U_law13_LedgerPlays, ap0, st0, reduceIte, reduceCtorEq, Nat.reduceEqDiff, Nat.reduceAdd, Int.reduceLT, Int.reduceLE, Int.reduceNeg, Int.reduceEq, Nat.reduceLT, Nat.reduceSub, Nat.reduceMul, Nat.reduceBEq, Nat.reduceLeDiff, Int.reduceBEq, Int.reduceBNe, Int.reduceToNat, ne_eq, implies_true, bA]
  refine loopF (fun x : List AObj × List Nat × List Acc × Nat => ⟨ofL [(1, .slc (L.map act3)), (5, .ref b 0), (6, .ref o1.length 0), (7, .int .i64 (x.2.2.2 : Int))], x.1⟩)
    (fun x => Led x.1 x.2.1 b cap x.2.2.1 ∧ x.1[o1.length]? = some (.box [.int .i64 cap, .slc (x.2.2.1.map row3)]) ∧ o1.length ∉ x.2.1) (fun x => L.length - x.2.2.2)
    (o1 ++ [AObj.box [PV.int IntKind.i64 cap, PV.slc []]], fp1, [], 0) ?_ ⟨h1.app, by simp, fun hx => by have := h1.lt _ hx; omega⟩ ?_
  · simp (config := {maxSteps := 4000000}) only [U_law13_LedgerPlays, reduceIte, reduceCtorEq, Nat.reduceEqDiff, Nat.reduceAdd, Int.reduceLT, Int.reduceLE, Int.reduceNeg, Int.reduceEq, Nat.reduceLT, Nat.reduceSub, Nat.reduceMul, Nat.reduceBEq, Nat.reduceLeDiff, Int.reduceBEq, Int.reduceBNe, Int.reduceToNat, ne_eq, implies_true, bA]
    all_goals rfl
  · rintro ⟨ob, fp, A, i⟩ ⟨hL, hbx, hnf⟩
    simp only at hL hbx hnf
    by_cases hlt : i < L.length
    · have d : decide ((i : Int) < (L.length : Int)) = true := by simpa using hlt
      by_cases h2 : i < 200
      · have d2 : decide ((i : Int) < 200) = true := by simp; omega
        have isl := fun ob fb => islV_map (ob := ob) (fb := fb) (k := .i64) (g := act3) hlt (act3_len _)

        have hlc : o1.length < ob.length := lt_of_get hbx
        have hcf : [ob.length].contains o1.length = false := by simp; omega
        have hb2 : (ob ++ [AObj.none])[o1.length]? = some (.box [.int .i64 cap, .slc (A.map row3)]) := by rw [List.getElem?_append_left hlc]; exact hbx
        have e2 : IntKind.i64.wrap ((i : Int) + 1) = ((i + 1 : Nat) : Int) := by rw [wrapI (by omega) (by omega)]; omega
        have hd := hL.app (ex := [])
        have hdoes := fun ex => does_i (hL.app (ex := ex)) L[i].1 L[i].2.1 L[i].2.2
        simp only [pvR] at hdoes
        obtain ⟨A', hA'⟩ : ∃ A', doesS cap A L[i].1 L[i].2.1 L[i].2.2 = A' := ⟨_, rfl⟩
        rw [hA'] at hdoes
        simp (config := {maxSteps := 4000000}) only [U_law13_LedgerPlays, d, d2, isl, act3, hbx, ldC_refF hcf, hb2, reduceIte, reduceCtorEq, Nat.reduceEqDiff, Nat.reduceAdd, Int.reduceLT, Int.reduceLE, Int.reduceNeg, Int.reduceEq, Nat.reduceLT, Nat.reduceSub, Nat.reduceMul, Nat.reduceBEq, Nat.reduceLeDiff, Int.reduceBEq, Int.reduceBNe, Int.reduceToNat, ne_eq, implies_true, bA]
        refine ⟨?_, ?_⟩
        · refine callM (hdoes _) ?_
          rintro r o2 ⟨rfl, fp2, hL2, hf2⟩
          have g0 := hL.old hf2 (j := ob.length) (by omega) (by simp)
          have gc : o2[o1.length]? = some (.box [.int .i64 cap, .slc (A.map row3)]) := by rw [hf2.out _ (by simp; omega) hnf, List.getElem?_append_left hlc]; exact hbx
          simp only [ap0, List.getElem?_cons_zero] at g0
          obtain ⟨hL3, hf3⟩ := hL.box hL2 hf2 (.box [.int .i64 cap, .slc (A'.map row3)]) (Nat.le_refl ob.length) (by simp)
          have gc3 : (o2.set ob.length (.box [.int .i64 cap, .slc (A'.map row3)]))[o1.length]? = some (.box [.int .i64 cap, .slc (A.map row3)]) := by rw [List.getElem?_set_ne (by omega)]; exact gc
          have gs3 := setG g0 (.box [.int .i64 cap, .slc (A'.map row3)])
          have hnf3 : o1.length ∉ fp2 := fun hx => by
            rcases hf3.new _ hx with h | h
            · exact hnf h
            · omega
          simp (config := {maxSteps := 4000000}) only [U_law13_LedgerPlays, g0, gc, setG g0, List.set_set, reduceIte, reduceCtorEq, Nat.reduceEqDiff, Nat.reduceAdd, Int.reduceLT, Int.reduceLE, Int.reduceNeg, Int.reduceEq, Nat.reduceLT, Nat.reduceSub, Nat.reduceMul, Nat.reduceBEq, Nat.reduceLeDiff, Int.reduceBEq, Int.reduceBNe, Int.reduceToNat, ne_eq, implies_true, bA]
          generalize o2.set ob.length (.box [.int .i64 cap, .slc (A'.map row3)]) = o3 at hL3 hf3 gc3 gs3 ⊢
          simp (config := {maxSteps := 4000000}) only [U_law13_LedgerPlays, gs3, gc3, setG gc3, reduceIte, reduceCtorEq, Nat.reduceEqDiff, Nat.reduceAdd, Int.reduceLT, Int.reduceLE, Int.reduceNeg, Int.reduceEq, Nat.reduceLT, Nat.reduceSub, Nat.reduceMul, Nat.reduceBEq, Nat.reduceLeDiff, Int.reduceBEq, Int.reduceBNe, Int.reduceToNat, ne_eq, implies_true, bA]
          have gc4 := setG gc3 (.box [.int .i64 cap, .slc (A'.map row3)])
          have hL4 : Led (o3.set o1.length (.box [.int .i64 cap, .slc (A'.map row3)])) fp2 b cap A' := hL3.keep fun m hm => by
            rw [List.getElem?_set_ne]; rintro rfl; exact hnf3 hm
          generalize o3.set o1.length (.box [.int .i64 cap, .slc (A'.map row3)]) = o4 at gc4 hL4 ⊢
          have hs := same_r hL4
          simp only [pvR] at hs
          refine callR hs ?_
          simp (config := {maxSteps := 4000000}) only [U_law13_LedgerPlays, gc4, e2, reduceIte, reduceCtorEq, Nat.reduceEqDiff, Nat.reduceAdd, Int.reduceLT, Int.reduceLE, Int.reduceNeg, Int.reduceEq, Nat.reduceLT, Nat.reduceSub, Nat.reduceMul, Nat.reduceBEq, Nat.reduceLeDiff, Int.reduceBEq, Int.reduceBNe, Int.reduceToNat, ne_eq, implies_true, bA]
          exact ⟨(o4, fp2, A', i + 1), rfl, ⟨hL4, gc4, hnf3⟩, by simp only; omega⟩
        · simp (config := {maxSteps := 4000000}) only [U_law13_LedgerPlays, ap0, st0, reduceIte, reduceCtorEq, Nat.reduceEqDiff, Nat.reduceAdd, Int.reduceLT, Int.reduceLE, Int.reduceNeg, Int.reduceEq, Nat.reduceLT, Nat.reduceSub, Nat.reduceMul, Nat.reduceBEq, Nat.reduceLeDiff, Int.reduceBEq, Int.reduceBNe, Int.reduceToNat, ne_eq, implies_true, bA]
          refine callM (hdoes _) ?_
          rintro r o2 ⟨rfl, fp2, hL2, hf2⟩
          have g0 := hL.old hf2 (j := ob.length) (by omega) (by simp)
          have gc : o2[o1.length]? = some (.box [.int .i64 cap, .slc (A.map row3)]) := by rw [hf2.out _ (by simp; omega) hnf, List.getElem?_append_left hlc]; exact hbx
          simp only [ap0, List.getElem?_cons_zero] at g0
          obtain ⟨hL3, hf3⟩ := hL.box hL2 hf2 (.box [.int .i64 cap, .slc (A'.map row3)]) (Nat.le_refl ob.length) (by simp)
          have gc3 : (o2.set ob.length (.box [.int .i64 cap, .slc (A'.map row3)]))[o1.length]? = some (.box [.int .i64 cap, .slc (A.map row3)]) := by rw [List.getElem?_set_ne (by omega)]; exact gc
          have gs3 := setG g0 (.box [.int .i64 cap, .slc (A'.map row3)])
          have hnf3 : o1.length ∉ fp2 := fun hx => by
            rcases hf3.new _ hx with h | h
            · exact hnf h
            · omega
          simp (config := {maxSteps := 4000000}) only [U_law13_LedgerPlays, g0, gc, setG g0, List.set_set, reduceIte, reduceCtorEq, Nat.reduceEqDiff, Nat.reduceAdd, Int.reduceLT, Int.reduceLE, Int.reduceNeg, Int.reduceEq, Nat.reduceLT, Nat.reduceSub, Nat.reduceMul, Nat.reduceBEq, Nat.reduceLeDiff, Int.reduceBEq, Int.reduceBNe, Int.reduceToNat, ne_eq, implies_true, bA]
          generalize o2.set ob.length (.box [.int .i64 cap, .slc (A'.map row3)]) = o3 at hL3 hf3 gc3 gs3 ⊢
          simp (config := {maxSteps := 4000000}) only [U_law13_LedgerPlays, gs3, gc3, setG gc3, reduceIte, reduceCtorEq, Nat.reduceEqDiff, Nat.reduceAdd, Int.reduceLT, Int.reduceLE, Int.reduceNeg, Int.reduceEq, Nat.reduceLT, Nat.reduceSub, Nat.reduceMul, Nat.reduceBEq, Nat.reduceLeDiff, Int.reduceBEq, Int.reduceBNe, Int.reduceToNat, ne_eq, implies_true, bA]
          have gc4 := setG gc3 (.box [.int .i64 cap, .slc (A'.map row3)])
          have hL4 : Led (o3.set o1.length (.box [.int .i64 cap, .slc (A'.map row3)])) fp2 b cap A' := hL3.keep fun m hm => by
            rw [List.getElem?_set_ne]; rintro rfl; exact hnf3 hm
          generalize o3.set o1.length (.box [.int .i64 cap, .slc (A'.map row3)]) = o4 at gc4 hL4 ⊢
          have hs := same_r hL4
          simp only [pvR] at hs
          refine callR hs ?_
          simp (config := {maxSteps := 4000000}) only [U_law13_LedgerPlays, gc4, e2, reduceIte, reduceCtorEq, Nat.reduceEqDiff, Nat.reduceAdd, Int.reduceLT, Int.reduceLE, Int.reduceNeg, Int.reduceEq, Nat.reduceLT, Nat.reduceSub, Nat.reduceMul, Nat.reduceBEq, Nat.reduceLeDiff, Int.reduceBEq, Int.reduceBNe, Int.reduceToNat, ne_eq, implies_true, bA]
          exact ⟨(o4, fp2, A', i + 1), rfl, ⟨hL4, gc4, hnf3⟩, by simp only; omega⟩
      · have d2 : decide ((i : Int) < 200) = false := by simp; omega
        have hof := hL.of 0
        rw [ofS_zero hL.ok] at hof
        simp (config := {maxSteps := 4000000}) only [U_law13_LedgerPlays, d, d2, reduceIte, reduceCtorEq, Nat.reduceEqDiff, Nat.reduceAdd, Int.reduceLT, Int.reduceLE, Int.reduceNeg, Int.reduceEq, Nat.reduceLT, Nat.reduceSub, Nat.reduceMul, Nat.reduceBEq, Nat.reduceLeDiff, Int.reduceBEq, Int.reduceBNe, Int.reduceToNat, ne_eq, implies_true, bA]
        refine callR hof ?_
        simp (config := {maxSteps := 4000000}) only [U_law13_LedgerPlays, reduceIte, reduceCtorEq, Nat.reduceEqDiff, Nat.reduceAdd, Int.reduceLT, Int.reduceLE, Int.reduceNeg, Int.reduceEq, Nat.reduceLT, Nat.reduceSub, Nat.reduceMul, Nat.reduceBEq, Nat.reduceLeDiff, Int.reduceBEq, Int.reduceBNe, Int.reduceToNat, ne_eq, implies_true, bA]
    · have d : decide ((i : Int) < (L.length : Int)) = false := by simpa using hlt
      have hof := hL.of 0
      rw [ofS_zero hL.ok] at hof
      simp (config := {maxSteps := 4000000}) only [U_law13_LedgerPlays, d, reduceIte, reduceCtorEq, Nat.reduceEqDiff, Nat.reduceAdd, Int.reduceLT, Int.reduceLE, Int.reduceNeg, Int.reduceEq, Nat.reduceLT, Nat.reduceSub, Nat.reduceMul, Nat.reduceBEq, Nat.reduceLeDiff, Int.reduceBEq, Int.reduceBNe, Int.reduceToNat, ne_eq, implies_true, bA]
      refine callR hof ?_
      simp (config := {maxSteps := 4000000}) only [U_law13_LedgerPlays, reduceIte, reduceCtorEq, Nat.reduceEqDiff, Nat.reduceAdd, Int.reduceLT, Int.reduceLE, Int.reduceNeg, Int.reduceEq, Nat.reduceLT, Nat.reduceSub, Nat.reduceMul, Nat.reduceBEq, Nat.reduceLeDiff, Int.reduceBEq, Int.reduceBNe, Int.reduceToNat, ne_eq, implies_true, bA]

theorem sums_law (c : Int) (L : List (Int × Int × Int)) (hc : c ≤ 9223372036854775807) : PCall Try.prog 5 [.int .i64 c, .slc (L.map act3)] (.bool true) := by
  refine pcall_dr Try.func5 comp_law13_LedgerSums ?_
  simp (config := {maxSteps := 4000000}) only [U_law13_LedgerSums, reduceIte, reduceCtorEq, Nat.reduceEqDiff, Nat.reduceAdd, Int.reduceLT, Int.reduceLE, Int.reduceNeg, Int.reduceEq, Nat.reduceLT, Nat.reduceSub, Nat.reduceMul, Nat.reduceBEq, Nat.reduceLeDiff, Int.reduceBEq, Int.reduceBNe, Int.reduceToNat, ne_eq, implies_true, bA]
  refine callM (new_i [] c hc) ?_
  rintro r o1 ⟨fp1, rfl, h1, hf1⟩
  generalize ([] : List AObj).length + 1 = b at h1 ⊢
  obtain ⟨cap, hcap⟩ : ∃ cap, max c 0 = cap := ⟨_, rfl⟩
  rw [hcap] at h1
  simp (config := {maxSteps := 4000000}) only [U_law13_LedgerSums, reduceIte, reduceCtorEq, Nat.reduceEqDiff, Nat.reduceAdd, Int.reduceLT, Int.reduceLE, Int.reduceNeg, Int.reduceEq, Nat.reduceLT, Nat.reduceSub, Nat.reduceMul, Nat.reduceBEq, Nat.reduceLeDiff, Int.reduceBEq, Int.reduceBNe, Int.reduceToNat, ne_eq, implies_true, bA]
  refine callI awake13_spec ?_
  simp (config := {maxSteps := 4000000}) only [U_law13_LedgerSums, hcap, reduceIte, reduceCtorEq, Nat.reduceEqDiff, Nat.reduceAdd, Int.reduceLT, Int.reduceLE, Int.reduceNeg, Int.reduceEq, Nat.reduceLT, Nat.reduceSub, Nat.reduceMul, Nat.reduceBEq, Nat.reduceLeDiff, Int.reduceBEq, Int.reduceBNe, Int.reduceToNat, ne_eq, implies_true, bA]
  refine loopF (fun x : List AObj × List Nat × List Acc × Nat => ⟨ofL [(1, .slc (L.map act3)), (5, .ref b 0), (6, .int .i64 cap), (7, .int .i64 (x.2.2.2 : Int))], x.1⟩)
    (fun x => Led x.1 x.2.1 b cap x.2.2.1) (fun x => L.length - x.2.2.2)
    (o1, fp1, [], 0) ?_ h1 ?_
  · simp (config := {maxSteps := 4000000}) only [U_law13_LedgerSums, hcap, reduceIte, reduceCtorEq, Nat.reduceEqDiff, Nat.reduceAdd, Int.reduceLT, Int.reduceLE, Int.reduceNeg, Int.reduceEq, Nat.reduceLT, Nat.reduceSub, Nat.reduceMul, Nat.reduceBEq, Nat.reduceLeDiff, Int.reduceBEq, Int.reduceBNe, Int.reduceToNat, ne_eq, implies_true, bA]
    all_goals rfl
  · rintro ⟨ob, fp, A, i⟩ hL
    simp only at hL
    by_cases hlt : i < L.length
    · have d : decide ((i : Int) < (L.length : Int)) = true := by simpa using hlt
      by_cases h2 : i < 200
      · have d2 : decide ((i : Int) < 200) = true := by simp; omega
        have isl := fun ob fb => islV_map (ob := ob) (fb := fb) (k := .i64) (g := act3) hlt (act3_len _)
        have e2 : IntKind.i64.wrap ((i : Int) + 1) = ((i + 1 : Nat) : Int) := by rw [wrapI (by omega) (by omega)]; omega
        have hk := hL.ok
        have s0 := sumA_nn hk.use
        have s1 := hk.c0
        have s2 := hk.c1
        have s3 := hk.sum
        have e1 : IntKind.i64.wrap (cap - sumA A) = cap - sumA A := wrapI (by omega) (by omega)
        generalize hx : L[i] = x at isl
        obtain ⟨kd, id, n⟩ := x
        simp (config := {maxSteps := 4000000}) only [U_law13_LedgerSums, d, d2, reduceIte, reduceCtorEq, Nat.reduceEqDiff, Nat.reduceAdd, Int.reduceLT, Int.reduceLE, Int.reduceNeg, Int.reduceEq, Nat.reduceLT, Nat.reduceSub, Nat.reduceMul, Nat.reduceBEq, Nat.reduceLeDiff, Int.reduceBEq, Int.reduceBNe, Int.reduceToNat, ne_eq, implies_true, bA]
        refine callR hL.total ?_
        simp (config := {maxSteps := 4000000}) only [U_law13_LedgerSums, isl, act3, reduceIte, reduceCtorEq, Nat.reduceEqDiff, Nat.reduceAdd, Int.reduceLT, Int.reduceLE, Int.reduceNeg, Int.reduceEq, Nat.reduceLT, Nat.reduceSub, Nat.reduceMul, Nat.reduceBEq, Nat.reduceLeDiff, Int.reduceBEq, Int.reduceBNe, Int.reduceToNat, ne_eq, implies_true, bA]
        cases d0 : (kd == 0) with
        | true =>
          simp (config := {maxSteps := 4000000}) only [U_law13_LedgerSums, isl, act3, d0, reduceIte, reduceCtorEq, Nat.reduceEqDiff, Nat.reduceAdd, Int.reduceLT, Int.reduceLE, Int.reduceNeg, Int.reduceEq, Nat.reduceLT, Nat.reduceSub, Nat.reduceMul, Nat.reduceBEq, Nat.reduceLeDiff, Int.reduceBEq, Int.reduceBNe, Int.reduceToNat, ne_eq, implies_true, bA]
          refine callM (hL.open id n) ?_
          rintro r o2 ⟨rfl, fp2, hL2, hf2⟩
          simp (config := {maxSteps := 4000000}) only [U_law13_LedgerSums, isl, act3, reduceIte, reduceCtorEq, Nat.reduceEqDiff, Nat.reduceAdd, Int.reduceLT, Int.reduceLE, Int.reduceNeg, Int.reduceEq, Nat.reduceLT, Nat.reduceSub, Nat.reduceMul, Nat.reduceBEq, Nat.reduceLeDiff, Int.reduceBEq, Int.reduceBNe, Int.reduceToNat, ne_eq, implies_true, bA]
          have hk2 := hL2.ok
          have h82 := hk2.len
          refine callM hL2.ids ?_
          rintro r o3 ⟨n3, rfl, hn3, ex3, hex3⟩
          have hL3 : Led o3 fp2 b cap (openS A id n).1 := by rw [hex3]; exact hL2.app
          have hl3 : (rowsZ .i64 (((openS A id n).1).map (·.id))).length = ((openS A id n).1).length := by simp [rowsZ]
          have hr3 : rowsO (some (AObj.list 1 (rowsZ .i64 (((openS A id n).1).map (·.id))))) 0 ((openS A id n).1).length = some (rowsZ .i64 (((openS A id n).1).map (·.id))) := rowsO_all hl3.symm
          have hr32 : rowsO (some (AObj.list 1 (List.map (fun n : Int => [PV.int .i64 n]) (List.map (fun x : Acc => x.id) ((openS A id n).1))))) 0 ((openS A id n).1).length = some (List.map (fun n : Int => [PV.int .i64 n]) (List.map (fun x : Acc => x.id) ((openS A id n).1))) := hr3
          have hrl3 : ((rowsZ .i64 (((openS A id n).1).map (·.id))).length : Int) = (((openS A id n).1).length : Int) := by rw [hl3]
          clear hex3
          generalize hAA : (openS A id n).1 = A2 at hL3 hn3 hl3 hr3 hr32 hrl3 hk2 h82 ⊢
          have s0 := sumA_nn hk2.use
          have s1 := hk2.c0
          have s2 := hk2.c1
          have s3 := hk2.sum
          have e13 : IntKind.i64.wrap (cap - sumA A2) = cap - sumA A2 := wrapI (by omega) (by omega)
          have dg : decide (cap < sumA A2) = false := by simp; omega
          simp (config := {maxSteps := 4000000}) only [U_law13_LedgerSums, reduceIte, reduceCtorEq, Nat.reduceEqDiff, Nat.reduceAdd, Int.reduceLT, Int.reduceLE, Int.reduceNeg, Int.reduceEq, Nat.reduceLT, Nat.reduceSub, Nat.reduceMul, Nat.reduceBEq, Nat.reduceLeDiff, Int.reduceBEq, Int.reduceBNe, Int.reduceToNat, ne_eq, implies_true, bA]
          refine loopF (fun k : Nat => ⟨ofL [(1, .slc (L.map act3)), (5, .ref b 0), (6, .int .i64 cap), (7, .int .i64 (i : Int)), (13, .int .i64 (sumA (A2.take k))), (14, .osl n3 0 A2.length), (15, .int .i64 (k : Int))], o3⟩) (fun k => k ≤ A2.length) (fun k => A2.length - k) 0 ?_ (Nat.zero_le _) ?_
          · simp (config := {maxSteps := 4000000}) only [U_law13_LedgerSums, reduceIte, reduceCtorEq, Nat.reduceEqDiff, Nat.reduceAdd, Int.reduceLT, Int.reduceLE, Int.reduceNeg, Int.reduceEq, Nat.reduceLT, Nat.reduceSub, Nat.reduceMul, Nat.reduceBEq, Nat.reduceLeDiff, Int.reduceBEq, Int.reduceBNe, Int.reduceToNat, ne_eq, implies_true, bA]
            all_goals rfl
          · intro k hk3
            by_cases hlt3 : k < A2.length
            · have d3 : decide ((k : Int) < (A2.length : Int)) = true := by simpa using hlt3
              have hlt3' : k < (A2.map (·.id)).length := by simpa using hlt3
              have hid3 : (A2.map (·.id))[k] = A2[k].id := by simp
              have i1 := islO_map (g := fun n : Int => [PV.int .i64 n]) (l := A2.map (·.id)) (e := 1) (o := n3) (m := A2.length) (k := .i64) (by simp) hlt3'
              have i2 := ldL_map (g := fun n : Int => [PV.int .i64 n]) (l := A2.map (·.id)) (e := 1) (len := A2.length) (off := 0) (n := 1) (by simp) hlt3' (by simp)
              rw [hid3] at i2
              have hof := hL3.of A2[k].id
              rw [ofS_get hk2.srt hlt3] at hof
              have hu := sumA_take hk2.use (k + 1)
              have hge := sumA_get hlt3
              have hun := hk2.use _ (List.getElem_mem hlt3)
              have du : decide (A2[k].used < 0) = false := by simp; omega
              have e3 : IntKind.i64.wrap (sumA (A2.take k) + A2[k].used) = sumA (A2.take (k + 1)) := by rw [wrapI (by omega) (by omega), hge]
              have e4 : IntKind.i64.wrap ((k : Int) + 1) = ((k + 1 : Nat) : Int) := by rw [wrapI (by omega) (by omega)]; omega
              simp (config := {maxSteps := 4000000}) only [U_law13_LedgerSums, d3, hn3, i1, i2, rowsZ, hr32, reduceIte, reduceCtorEq, Nat.reduceEqDiff, Nat.reduceAdd, Int.reduceLT, Int.reduceLE, Int.reduceNeg, Int.reduceEq, Nat.reduceLT, Nat.reduceSub, Nat.reduceMul, Nat.reduceBEq, Nat.reduceLeDiff, Int.reduceBEq, Int.reduceBNe, Int.reduceToNat, ne_eq, implies_true, bA]
              refine callR hof ?_
              simp (config := {maxSteps := 4000000}) only [U_law13_LedgerSums, du, e3, e4, reduceIte, reduceCtorEq, Nat.reduceEqDiff, Nat.reduceAdd, Int.reduceLT, Int.reduceLE, Int.reduceNeg, Int.reduceEq, Nat.reduceLT, Nat.reduceSub, Nat.reduceMul, Nat.reduceBEq, Nat.reduceLeDiff, Int.reduceBEq, Int.reduceBNe, Int.reduceToNat, ne_eq, implies_true, bA]
              exact ⟨k + 1, rfl, hlt3, by omega⟩
            · have d3 : decide ((k : Int) < (A2.length : Int)) = false := by simpa using hlt3
              have hA3 : A2.take k = A2 := List.take_of_length_le (by omega)
              simp (config := {maxSteps := 4000000}) only [U_law13_LedgerSums, d3, hn3, hr3, hrl3, hA3, reduceIte, reduceCtorEq, Nat.reduceEqDiff, Nat.reduceAdd, Int.reduceLT, Int.reduceLE, Int.reduceNeg, Int.reduceEq, Nat.reduceLT, Nat.reduceSub, Nat.reduceMul, Nat.reduceBEq, Nat.reduceLeDiff, Int.reduceBEq, Int.reduceBNe, Int.reduceToNat, ne_eq, implies_true, bA]
              refine callR hL3.total ?_
              simp (config := {maxSteps := 4000000}) only [U_law13_LedgerSums, neS, dg, reduceIte, reduceCtorEq, Nat.reduceEqDiff, Nat.reduceAdd, Int.reduceLT, Int.reduceLE, Int.reduceNeg, Int.reduceEq, Nat.reduceLT, Nat.reduceSub, Nat.reduceMul, Nat.reduceBEq, Nat.reduceLeDiff, Int.reduceBEq, Int.reduceBNe, Int.reduceToNat, ne_eq, implies_true, bA]
              refine callR hL3.left ?_
              simp (config := {maxSteps := 4000000}) only [U_law13_LedgerSums, neS, e13, e2, reduceIte, reduceCtorEq, Nat.reduceEqDiff, Nat.reduceAdd, Int.reduceLT, Int.reduceLE, Int.reduceNeg, Int.reduceEq, Nat.reduceLT, Nat.reduceSub, Nat.reduceMul, Nat.reduceBEq, Nat.reduceLeDiff, Int.reduceBEq, Int.reduceBNe, Int.reduceToNat, ne_eq, implies_true, bA]
              exact ⟨(o3, fp2, A2, i + 1), rfl, hL3, by simp only; omega⟩
        | false =>
          cases d1 : (kd == 1) with
          | true =>
            simp (config := {maxSteps := 4000000}) only [U_law13_LedgerSums, isl, act3, d0, d1, reduceIte, reduceCtorEq, Nat.reduceEqDiff, Nat.reduceAdd, Int.reduceLT, Int.reduceLE, Int.reduceNeg, Int.reduceEq, Nat.reduceLT, Nat.reduceSub, Nat.reduceMul, Nat.reduceBEq, Nat.reduceLeDiff, Int.reduceBEq, Int.reduceBNe, Int.reduceToNat, ne_eq, implies_true, bA]
            refine callM (hL.close id) ?_
            rintro r o2 ⟨rfl, fp2, hL2, hf2⟩
            simp (config := {maxSteps := 4000000}) only [U_law13_LedgerSums, isl, act3, reduceIte, reduceCtorEq, Nat.reduceEqDiff, Nat.reduceAdd, Int.reduceLT, Int.reduceLE, Int.reduceNeg, Int.reduceEq, Nat.reduceLT, Nat.reduceSub, Nat.reduceMul, Nat.reduceBEq, Nat.reduceLeDiff, Int.reduceBEq, Int.reduceBNe, Int.reduceToNat, ne_eq, implies_true, bA]
            have hk2 := hL2.ok
            have h82 := hk2.len
            refine callM hL2.ids ?_
            rintro r o3 ⟨n3, rfl, hn3, ex3, hex3⟩
            have hL3 : Led o3 fp2 b cap (closeS A id).1 := by rw [hex3]; exact hL2.app
            have hl3 : (rowsZ .i64 (((closeS A id).1).map (·.id))).length = ((closeS A id).1).length := by simp [rowsZ]
            have hr3 : rowsO (some (AObj.list 1 (rowsZ .i64 (((closeS A id).1).map (·.id))))) 0 ((closeS A id).1).length = some (rowsZ .i64 (((closeS A id).1).map (·.id))) := rowsO_all hl3.symm
            have hr32 : rowsO (some (AObj.list 1 (List.map (fun n : Int => [PV.int .i64 n]) (List.map (fun x : Acc => x.id) ((closeS A id).1))))) 0 ((closeS A id).1).length = some (List.map (fun n : Int => [PV.int .i64 n]) (List.map (fun x : Acc => x.id) ((closeS A id).1))) := hr3
            have hrl3 : ((rowsZ .i64 (((closeS A id).1).map (·.id))).length : Int) = (((closeS A id).1).length : Int) := by rw [hl3]
            clear hex3
            generalize hAA : (closeS A id).1 = A2 at hL3 hn3 hl3 hr3 hr32 hrl3 hk2 h82 ⊢
            have s0 := sumA_nn hk2.use
            have s1 := hk2.c0
            have s2 := hk2.c1
            have s3 := hk2.sum
            have e13 : IntKind.i64.wrap (cap - sumA A2) = cap - sumA A2 := wrapI (by omega) (by omega)
            have dg : decide (cap < sumA A2) = false := by simp; omega
            simp (config := {maxSteps := 4000000}) only [U_law13_LedgerSums, reduceIte, reduceCtorEq, Nat.reduceEqDiff, Nat.reduceAdd, Int.reduceLT, Int.reduceLE, Int.reduceNeg, Int.reduceEq, Nat.reduceLT, Nat.reduceSub, Nat.reduceMul, Nat.reduceBEq, Nat.reduceLeDiff, Int.reduceBEq, Int.reduceBNe, Int.reduceToNat, ne_eq, implies_true, bA]
            refine loopF (fun k : Nat => ⟨ofL [(1, .slc (L.map act3)), (5, .ref b 0), (6, .int .i64 cap), (7, .int .i64 (i : Int)), (13, .int .i64 (sumA (A2.take k))), (14, .osl n3 0 A2.length), (15, .int .i64 (k : Int))], o3⟩) (fun k => k ≤ A2.length) (fun k => A2.length - k) 0 ?_ (Nat.zero_le _) ?_
            · simp (config := {maxSteps := 4000000}) only [U_law13_LedgerSums, reduceIte, reduceCtorEq, Nat.reduceEqDiff, Nat.reduceAdd, Int.reduceLT, Int.reduceLE, Int.reduceNeg, Int.reduceEq, Nat.reduceLT, Nat.reduceSub, Nat.reduceMul, Nat.reduceBEq, Nat.reduceLeDiff, Int.reduceBEq, Int.reduceBNe, Int.reduceToNat, ne_eq, implies_true, bA]
              all_goals rfl
            · intro k hk3
              by_cases hlt3 : k < A2.length
              · have d3 : decide ((k : Int) < (A2.length : Int)) = true := by simpa using hlt3
                have hlt3' : k < (A2.map (·.id)).length := by simpa using hlt3
                have hid3 : (A2.map (·.id))[k] = A2[k].id := by simp
                have i1 := islO_map (g := fun n : Int => [PV.int .i64 n]) (l := A2.map (·.id)) (e := 1) (o := n3) (m := A2.length) (k := .i64) (by simp) hlt3'
                have i2 := ldL_map (g := fun n : Int => [PV.int .i64 n]) (l := A2.map (·.id)) (e := 1) (len := A2.length) (off := 0) (n := 1) (by simp) hlt3' (by simp)
                rw [hid3] at i2
                have hof := hL3.of A2[k].id
                rw [ofS_get hk2.srt hlt3] at hof
                have hu := sumA_take hk2.use (k + 1)
                have hge := sumA_get hlt3
                have hun := hk2.use _ (List.getElem_mem hlt3)
                have du : decide (A2[k].used < 0) = false := by simp; omega
                have e3 : IntKind.i64.wrap (sumA (A2.take k) + A2[k].used) = sumA (A2.take (k + 1)) := by rw [wrapI (by omega) (by omega), hge]
                have e4 : IntKind.i64.wrap ((k : Int) + 1) = ((k + 1 : Nat) : Int) := by rw [wrapI (by omega) (by omega)]; omega
                simp (config := {maxSteps := 4000000}) only [U_law13_LedgerSums, d3, hn3, i1, i2, rowsZ, hr32, reduceIte, reduceCtorEq, Nat.reduceEqDiff, Nat.reduceAdd, Int.reduceLT, Int.reduceLE, Int.reduceNeg, Int.reduceEq, Nat.reduceLT, Nat.reduceSub, Nat.reduceMul, Nat.reduceBEq, Nat.reduceLeDiff, Int.reduceBEq, Int.reduceBNe, Int.reduceToNat, ne_eq, implies_true, bA]
                refine callR hof ?_
                simp (config := {maxSteps := 4000000}) only [U_law13_LedgerSums, du, e3, e4, reduceIte, reduceCtorEq, Nat.reduceEqDiff, Nat.reduceAdd, Int.reduceLT, Int.reduceLE, Int.reduceNeg, Int.reduceEq, Nat.reduceLT, Nat.reduceSub, Nat.reduceMul, Nat.reduceBEq, Nat.reduceLeDiff, Int.reduceBEq, Int.reduceBNe, Int.reduceToNat, ne_eq, implies_true, bA]
                exact ⟨k + 1, rfl, hlt3, by omega⟩
              · have d3 : decide ((k : Int) < (A2.length : Int)) = false := by simpa using hlt3
                have hA3 : A2.take k = A2 := List.take_of_length_le (by omega)
                simp (config := {maxSteps := 4000000}) only [U_law13_LedgerSums, d3, hn3, hr3, hrl3, hA3, reduceIte, reduceCtorEq, Nat.reduceEqDiff, Nat.reduceAdd, Int.reduceLT, Int.reduceLE, Int.reduceNeg, Int.reduceEq, Nat.reduceLT, Nat.reduceSub, Nat.reduceMul, Nat.reduceBEq, Nat.reduceLeDiff, Int.reduceBEq, Int.reduceBNe, Int.reduceToNat, ne_eq, implies_true, bA]
                refine callR hL3.total ?_
                simp (config := {maxSteps := 4000000}) only [U_law13_LedgerSums, neS, dg, reduceIte, reduceCtorEq, Nat.reduceEqDiff, Nat.reduceAdd, Int.reduceLT, Int.reduceLE, Int.reduceNeg, Int.reduceEq, Nat.reduceLT, Nat.reduceSub, Nat.reduceMul, Nat.reduceBEq, Nat.reduceLeDiff, Int.reduceBEq, Int.reduceBNe, Int.reduceToNat, ne_eq, implies_true, bA]
                refine callR hL3.left ?_
                simp (config := {maxSteps := 4000000}) only [U_law13_LedgerSums, neS, e13, e2, reduceIte, reduceCtorEq, Nat.reduceEqDiff, Nat.reduceAdd, Int.reduceLT, Int.reduceLE, Int.reduceNeg, Int.reduceEq, Nat.reduceLT, Nat.reduceSub, Nat.reduceMul, Nat.reduceBEq, Nat.reduceLeDiff, Int.reduceBEq, Int.reduceBNe, Int.reduceToNat, ne_eq, implies_true, bA]
                exact ⟨(o3, fp2, A2, i + 1), rfl, hL3, by simp only; omega⟩
          | false =>
            cases d3 : (kd == 3) with
            | true =>
              simp (config := {maxSteps := 4000000}) only [U_law13_LedgerSums, isl, act3, d0, d1, d3, reduceIte, reduceCtorEq, Nat.reduceEqDiff, Nat.reduceAdd, Int.reduceLT, Int.reduceLE, Int.reduceNeg, Int.reduceEq, Nat.reduceLT, Nat.reduceSub, Nat.reduceMul, Nat.reduceBEq, Nat.reduceLeDiff, Int.reduceBEq, Int.reduceBNe, Int.reduceToNat, ne_eq, implies_true, bA]
              refine callR (hL.of id) ?_
              simp (config := {maxSteps := 4000000}) only [U_law13_LedgerSums, isl, act3, reduceIte, reduceCtorEq, Nat.reduceEqDiff, Nat.reduceAdd, Int.reduceLT, Int.reduceLE, Int.reduceNeg, Int.reduceEq, Nat.reduceLT, Nat.reduceSub, Nat.reduceMul, Nat.reduceBEq, Nat.reduceLeDiff, Int.reduceBEq, Int.reduceBNe, Int.reduceToNat, ne_eq, implies_true, bA]
              refine callM (hL.charge id n) ?_
              rintro r o2 ⟨rfl, fp2, hL2, hf2⟩
              cases dn : decide (0 ≤ n) with
              | false =>
                simp (config := {maxSteps := 4000000}) only [U_law13_LedgerSums, isl, act3, dn, reduceIte, reduceCtorEq, Nat.reduceEqDiff, Nat.reduceAdd, Int.reduceLT, Int.reduceLE, Int.reduceNeg, Int.reduceEq, Nat.reduceLT, Nat.reduceSub, Nat.reduceMul, Nat.reduceBEq, Nat.reduceLeDiff, Int.reduceBEq, Int.reduceBNe, Int.reduceToNat, ne_eq, implies_true, bA]
                have hk2 := hL2.ok
                have h82 := hk2.len
                refine callM hL2.ids ?_
                rintro r o3 ⟨n3, rfl, hn3, ex3, hex3⟩
                have hL3 : Led o3 fp2 b cap (chargeS cap A id n).1 := by rw [hex3]; exact hL2.app
                have hl3 : (rowsZ .i64 (((chargeS cap A id n).1).map (·.id))).length = ((chargeS cap A id n).1).length := by simp [rowsZ]
                have hr3 : rowsO (some (AObj.list 1 (rowsZ .i64 (((chargeS cap A id n).1).map (·.id))))) 0 ((chargeS cap A id n).1).length = some (rowsZ .i64 (((chargeS cap A id n).1).map (·.id))) := rowsO_all hl3.symm
                have hr32 : rowsO (some (AObj.list 1 (List.map (fun n : Int => [PV.int .i64 n]) (List.map (fun x : Acc => x.id) ((chargeS cap A id n).1))))) 0 ((chargeS cap A id n).1).length = some (List.map (fun n : Int => [PV.int .i64 n]) (List.map (fun x : Acc => x.id) ((chargeS cap A id n).1))) := hr3
                have hrl3 : ((rowsZ .i64 (((chargeS cap A id n).1).map (·.id))).length : Int) = (((chargeS cap A id n).1).length : Int) := by rw [hl3]
                clear hex3
                generalize hAA : (chargeS cap A id n).1 = A2 at hL3 hn3 hl3 hr3 hr32 hrl3 hk2 h82 ⊢
                have s0 := sumA_nn hk2.use
                have s1 := hk2.c0
                have s2 := hk2.c1
                have s3 := hk2.sum
                have e13 : IntKind.i64.wrap (cap - sumA A2) = cap - sumA A2 := wrapI (by omega) (by omega)
                have dg : decide (cap < sumA A2) = false := by simp; omega
                simp (config := {maxSteps := 4000000}) only [U_law13_LedgerSums, reduceIte, reduceCtorEq, Nat.reduceEqDiff, Nat.reduceAdd, Int.reduceLT, Int.reduceLE, Int.reduceNeg, Int.reduceEq, Nat.reduceLT, Nat.reduceSub, Nat.reduceMul, Nat.reduceBEq, Nat.reduceLeDiff, Int.reduceBEq, Int.reduceBNe, Int.reduceToNat, ne_eq, implies_true, bA]
                refine loopF (fun k : Nat => ⟨ofL [(1, .slc (L.map act3)), (5, .ref b 0), (6, .int .i64 cap), (7, .int .i64 (i : Int)), (13, .int .i64 (sumA (A2.take k))), (14, .osl n3 0 A2.length), (15, .int .i64 (k : Int))], o3⟩) (fun k => k ≤ A2.length) (fun k => A2.length - k) 0 ?_ (Nat.zero_le _) ?_
                · simp (config := {maxSteps := 4000000}) only [U_law13_LedgerSums, reduceIte, reduceCtorEq, Nat.reduceEqDiff, Nat.reduceAdd, Int.reduceLT, Int.reduceLE, Int.reduceNeg, Int.reduceEq, Nat.reduceLT, Nat.reduceSub, Nat.reduceMul, Nat.reduceBEq, Nat.reduceLeDiff, Int.reduceBEq, Int.reduceBNe, Int.reduceToNat, ne_eq, implies_true, bA]
                  all_goals rfl
                · intro k hk3
                  by_cases hlt3 : k < A2.length
                  · have d3 : decide ((k : Int) < (A2.length : Int)) = true := by simpa using hlt3
                    have hlt3' : k < (A2.map (·.id)).length := by simpa using hlt3
                    have hid3 : (A2.map (·.id))[k] = A2[k].id := by simp
                    have i1 := islO_map (g := fun n : Int => [PV.int .i64 n]) (l := A2.map (·.id)) (e := 1) (o := n3) (m := A2.length) (k := .i64) (by simp) hlt3'
                    have i2 := ldL_map (g := fun n : Int => [PV.int .i64 n]) (l := A2.map (·.id)) (e := 1) (len := A2.length) (off := 0) (n := 1) (by simp) hlt3' (by simp)
                    rw [hid3] at i2
                    have hof := hL3.of A2[k].id
                    rw [ofS_get hk2.srt hlt3] at hof
                    have hu := sumA_take hk2.use (k + 1)
                    have hge := sumA_get hlt3
                    have hun := hk2.use _ (List.getElem_mem hlt3)
                    have du : decide (A2[k].used < 0) = false := by simp; omega
                    have e3 : IntKind.i64.wrap (sumA (A2.take k) + A2[k].used) = sumA (A2.take (k + 1)) := by rw [wrapI (by omega) (by omega), hge]
                    have e4 : IntKind.i64.wrap ((k : Int) + 1) = ((k + 1 : Nat) : Int) := by rw [wrapI (by omega) (by omega)]; omega
                    simp (config := {maxSteps := 4000000}) only [U_law13_LedgerSums, d3, hn3, i1, i2, rowsZ, hr32, reduceIte, reduceCtorEq, Nat.reduceEqDiff, Nat.reduceAdd, Int.reduceLT, Int.reduceLE, Int.reduceNeg, Int.reduceEq, Nat.reduceLT, Nat.reduceSub, Nat.reduceMul, Nat.reduceBEq, Nat.reduceLeDiff, Int.reduceBEq, Int.reduceBNe, Int.reduceToNat, ne_eq, implies_true, bA]
                    refine callR hof ?_
                    simp (config := {maxSteps := 4000000}) only [U_law13_LedgerSums, du, e3, e4, reduceIte, reduceCtorEq, Nat.reduceEqDiff, Nat.reduceAdd, Int.reduceLT, Int.reduceLE, Int.reduceNeg, Int.reduceEq, Nat.reduceLT, Nat.reduceSub, Nat.reduceMul, Nat.reduceBEq, Nat.reduceLeDiff, Int.reduceBEq, Int.reduceBNe, Int.reduceToNat, ne_eq, implies_true, bA]
                    exact ⟨k + 1, rfl, hlt3, by omega⟩
                  · have d3 : decide ((k : Int) < (A2.length : Int)) = false := by simpa using hlt3
                    have hA3 : A2.take k = A2 := List.take_of_length_le (by omega)
                    simp (config := {maxSteps := 4000000}) only [U_law13_LedgerSums, d3, hn3, hr3, hrl3, hA3, reduceIte, reduceCtorEq, Nat.reduceEqDiff, Nat.reduceAdd, Int.reduceLT, Int.reduceLE, Int.reduceNeg, Int.reduceEq, Nat.reduceLT, Nat.reduceSub, Nat.reduceMul, Nat.reduceBEq, Nat.reduceLeDiff, Int.reduceBEq, Int.reduceBNe, Int.reduceToNat, ne_eq, implies_true, bA]
                    refine callR hL3.total ?_
                    simp (config := {maxSteps := 4000000}) only [U_law13_LedgerSums, neS, dg, reduceIte, reduceCtorEq, Nat.reduceEqDiff, Nat.reduceAdd, Int.reduceLT, Int.reduceLE, Int.reduceNeg, Int.reduceEq, Nat.reduceLT, Nat.reduceSub, Nat.reduceMul, Nat.reduceBEq, Nat.reduceLeDiff, Int.reduceBEq, Int.reduceBNe, Int.reduceToNat, ne_eq, implies_true, bA]
                    refine callR hL3.left ?_
                    simp (config := {maxSteps := 4000000}) only [U_law13_LedgerSums, neS, e13, e2, reduceIte, reduceCtorEq, Nat.reduceEqDiff, Nat.reduceAdd, Int.reduceLT, Int.reduceLE, Int.reduceNeg, Int.reduceEq, Nat.reduceLT, Nat.reduceSub, Nat.reduceMul, Nat.reduceBEq, Nat.reduceLeDiff, Int.reduceBEq, Int.reduceBNe, Int.reduceToNat, ne_eq, implies_true, bA]
                    exact ⟨(o3, fp2, A2, i + 1), rfl, hL3, by simp only; omega⟩
              | true =>
                have hn0 : ¬ n < 0 := by have := of_decide_eq_true dn; omega
                cases hg : getA id A with
                | none =>
                  have ho4 : (ofS A id).2.2 = 4 := by rw [ofS, hg]
                  simp (config := {maxSteps := 4000000}) only [U_law13_LedgerSums, isl, act3, dn, ho4, reduceIte, reduceCtorEq, Nat.reduceEqDiff, Nat.reduceAdd, Int.reduceLT, Int.reduceLE, Int.reduceNeg, Int.reduceEq, Nat.reduceLT, Nat.reduceSub, Nat.reduceMul, Nat.reduceBEq, Nat.reduceLeDiff, Int.reduceBEq, Int.reduceBNe, Int.reduceToNat, ne_eq, implies_true, bA]
                  have hk2 := hL2.ok
                  have h82 := hk2.len
                  refine callM hL2.ids ?_
                  rintro r o3 ⟨n3, rfl, hn3, ex3, hex3⟩
                  have hL3 : Led o3 fp2 b cap (chargeS cap A id n).1 := by rw [hex3]; exact hL2.app
                  have hl3 : (rowsZ .i64 (((chargeS cap A id n).1).map (·.id))).length = ((chargeS cap A id n).1).length := by simp [rowsZ]
                  have hr3 : rowsO (some (AObj.list 1 (rowsZ .i64 (((chargeS cap A id n).1).map (·.id))))) 0 ((chargeS cap A id n).1).length = some (rowsZ .i64 (((chargeS cap A id n).1).map (·.id))) := rowsO_all hl3.symm
                  have hr32 : rowsO (some (AObj.list 1 (List.map (fun n : Int => [PV.int .i64 n]) (List.map (fun x : Acc => x.id) ((chargeS cap A id n).1))))) 0 ((chargeS cap A id n).1).length = some (List.map (fun n : Int => [PV.int .i64 n]) (List.map (fun x : Acc => x.id) ((chargeS cap A id n).1))) := hr3
                  have hrl3 : ((rowsZ .i64 (((chargeS cap A id n).1).map (·.id))).length : Int) = (((chargeS cap A id n).1).length : Int) := by rw [hl3]
                  clear hex3
                  generalize hAA : (chargeS cap A id n).1 = A2 at hL3 hn3 hl3 hr3 hr32 hrl3 hk2 h82 ⊢
                  have s0 := sumA_nn hk2.use
                  have s1 := hk2.c0
                  have s2 := hk2.c1
                  have s3 := hk2.sum
                  have e13 : IntKind.i64.wrap (cap - sumA A2) = cap - sumA A2 := wrapI (by omega) (by omega)
                  have dg : decide (cap < sumA A2) = false := by simp; omega
                  simp (config := {maxSteps := 4000000}) only [U_law13_LedgerSums, reduceIte, reduceCtorEq, Nat.reduceEqDiff, Nat.reduceAdd, Int.reduceLT, Int.reduceLE, Int.reduceNeg, Int.reduceEq, Nat.reduceLT, Nat.reduceSub, Nat.reduceMul, Nat.reduceBEq, Nat.reduceLeDiff, Int.reduceBEq, Int.reduceBNe, Int.reduceToNat, ne_eq, implies_true, bA]
                  refine loopF (fun k : Nat => ⟨ofL [(1, .slc (L.map act3)), (5, .ref b 0), (6, .int .i64 cap), (7, .int .i64 (i : Int)), (13, .int .i64 (sumA (A2.take k))), (14, .osl n3 0 A2.length), (15, .int .i64 (k : Int))], o3⟩) (fun k => k ≤ A2.length) (fun k => A2.length - k) 0 ?_ (Nat.zero_le _) ?_
                  · simp (config := {maxSteps := 4000000}) only [U_law13_LedgerSums, reduceIte, reduceCtorEq, Nat.reduceEqDiff, Nat.reduceAdd, Int.reduceLT, Int.reduceLE, Int.reduceNeg, Int.reduceEq, Nat.reduceLT, Nat.reduceSub, Nat.reduceMul, Nat.reduceBEq, Nat.reduceLeDiff, Int.reduceBEq, Int.reduceBNe, Int.reduceToNat, ne_eq, implies_true, bA]
                    all_goals rfl
                  · intro k hk3
                    by_cases hlt3 : k < A2.length
                    · have d3 : decide ((k : Int) < (A2.length : Int)) = true := by simpa using hlt3
                      have hlt3' : k < (A2.map (·.id)).length := by simpa using hlt3
                      have hid3 : (A2.map (·.id))[k] = A2[k].id := by simp
                      have i1 := islO_map (g := fun n : Int => [PV.int .i64 n]) (l := A2.map (·.id)) (e := 1) (o := n3) (m := A2.length) (k := .i64) (by simp) hlt3'
                      have i2 := ldL_map (g := fun n : Int => [PV.int .i64 n]) (l := A2.map (·.id)) (e := 1) (len := A2.length) (off := 0) (n := 1) (by simp) hlt3' (by simp)
                      rw [hid3] at i2
                      have hof := hL3.of A2[k].id
                      rw [ofS_get hk2.srt hlt3] at hof
                      have hu := sumA_take hk2.use (k + 1)
                      have hge := sumA_get hlt3
                      have hun := hk2.use _ (List.getElem_mem hlt3)
                      have du : decide (A2[k].used < 0) = false := by simp; omega
                      have e3 : IntKind.i64.wrap (sumA (A2.take k) + A2[k].used) = sumA (A2.take (k + 1)) := by rw [wrapI (by omega) (by omega), hge]
                      have e4 : IntKind.i64.wrap ((k : Int) + 1) = ((k + 1 : Nat) : Int) := by rw [wrapI (by omega) (by omega)]; omega
                      simp (config := {maxSteps := 4000000}) only [U_law13_LedgerSums, d3, hn3, i1, i2, rowsZ, hr32, reduceIte, reduceCtorEq, Nat.reduceEqDiff, Nat.reduceAdd, Int.reduceLT, Int.reduceLE, Int.reduceNeg, Int.reduceEq, Nat.reduceLT, Nat.reduceSub, Nat.reduceMul, Nat.reduceBEq, Nat.reduceLeDiff, Int.reduceBEq, Int.reduceBNe, Int.reduceToNat, ne_eq, implies_true, bA]
                      refine callR hof ?_
                      simp (config := {maxSteps := 4000000}) only [U_law13_LedgerSums, du, e3, e4, reduceIte, reduceCtorEq, Nat.reduceEqDiff, Nat.reduceAdd, Int.reduceLT, Int.reduceLE, Int.reduceNeg, Int.reduceEq, Nat.reduceLT, Nat.reduceSub, Nat.reduceMul, Nat.reduceBEq, Nat.reduceLeDiff, Int.reduceBEq, Int.reduceBNe, Int.reduceToNat, ne_eq, implies_true, bA]
                      exact ⟨k + 1, rfl, hlt3, by omega⟩
                    · have d3 : decide ((k : Int) < (A2.length : Int)) = false := by simpa using hlt3
                      have hA3 : A2.take k = A2 := List.take_of_length_le (by omega)
                      simp (config := {maxSteps := 4000000}) only [U_law13_LedgerSums, d3, hn3, hr3, hrl3, hA3, reduceIte, reduceCtorEq, Nat.reduceEqDiff, Nat.reduceAdd, Int.reduceLT, Int.reduceLE, Int.reduceNeg, Int.reduceEq, Nat.reduceLT, Nat.reduceSub, Nat.reduceMul, Nat.reduceBEq, Nat.reduceLeDiff, Int.reduceBEq, Int.reduceBNe, Int.reduceToNat, ne_eq, implies_true, bA]
                      refine callR hL3.total ?_
                      simp (config := {maxSteps := 4000000}) only [U_law13_LedgerSums, neS, dg, reduceIte, reduceCtorEq, Nat.reduceEqDiff, Nat.reduceAdd, Int.reduceLT, Int.reduceLE, Int.reduceNeg, Int.reduceEq, Nat.reduceLT, Nat.reduceSub, Nat.reduceMul, Nat.reduceBEq, Nat.reduceLeDiff, Int.reduceBEq, Int.reduceBNe, Int.reduceToNat, ne_eq, implies_true, bA]
                      refine callR hL3.left ?_
                      simp (config := {maxSteps := 4000000}) only [U_law13_LedgerSums, neS, e13, e2, reduceIte, reduceCtorEq, Nat.reduceEqDiff, Nat.reduceAdd, Int.reduceLT, Int.reduceLE, Int.reduceNeg, Int.reduceEq, Nat.reduceLT, Nat.reduceSub, Nat.reduceMul, Nat.reduceBEq, Nat.reduceLeDiff, Int.reduceBEq, Int.reduceBNe, Int.reduceToNat, ne_eq, implies_true, bA]
                      exact ⟨(o3, fp2, A2, i + 1), rfl, hL3, by simp only; omega⟩
                | some a =>
                  have ho4 : (ofS A id).2.2 = 0 := by rw [ofS, hg]
                  cases dl : decide (n ≤ cap - sumA A) with
                  | true =>
                    have hc0 : (chargeS cap A id n).2 = 0 := by have := of_decide_eq_true dl; rw [chargeS, if_neg hn0, hg]; simp only; rw [if_neg (by omega)]
                    simp (config := {maxSteps := 4000000}) only [U_law13_LedgerSums, isl, act3, dn, ho4, hc0, e1, dl, reduceIte, reduceCtorEq, Nat.reduceEqDiff, Nat.reduceAdd, Int.reduceLT, Int.reduceLE, Int.reduceNeg, Int.reduceEq, Nat.reduceLT, Nat.reduceSub, Nat.reduceMul, Nat.reduceBEq, Nat.reduceLeDiff, Int.reduceBEq, Int.reduceBNe, Int.reduceToNat, ne_eq, implies_true, bA]
                    have hk2 := hL2.ok
                    have h82 := hk2.len
                    refine callM hL2.ids ?_
                    rintro r o3 ⟨n3, rfl, hn3, ex3, hex3⟩
                    have hL3 : Led o3 fp2 b cap (chargeS cap A id n).1 := by rw [hex3]; exact hL2.app
                    have hl3 : (rowsZ .i64 (((chargeS cap A id n).1).map (·.id))).length = ((chargeS cap A id n).1).length := by simp [rowsZ]
                    have hr3 : rowsO (some (AObj.list 1 (rowsZ .i64 (((chargeS cap A id n).1).map (·.id))))) 0 ((chargeS cap A id n).1).length = some (rowsZ .i64 (((chargeS cap A id n).1).map (·.id))) := rowsO_all hl3.symm
                    have hr32 : rowsO (some (AObj.list 1 (List.map (fun n : Int => [PV.int .i64 n]) (List.map (fun x : Acc => x.id) ((chargeS cap A id n).1))))) 0 ((chargeS cap A id n).1).length = some (List.map (fun n : Int => [PV.int .i64 n]) (List.map (fun x : Acc => x.id) ((chargeS cap A id n).1))) := hr3
                    have hrl3 : ((rowsZ .i64 (((chargeS cap A id n).1).map (·.id))).length : Int) = (((chargeS cap A id n).1).length : Int) := by rw [hl3]
                    clear hex3
                    generalize hAA : (chargeS cap A id n).1 = A2 at hL3 hn3 hl3 hr3 hr32 hrl3 hk2 h82 ⊢
                    have s0 := sumA_nn hk2.use
                    have s1 := hk2.c0
                    have s2 := hk2.c1
                    have s3 := hk2.sum
                    have e13 : IntKind.i64.wrap (cap - sumA A2) = cap - sumA A2 := wrapI (by omega) (by omega)
                    have dg : decide (cap < sumA A2) = false := by simp; omega
                    simp (config := {maxSteps := 4000000}) only [U_law13_LedgerSums, reduceIte, reduceCtorEq, Nat.reduceEqDiff, Nat.reduceAdd, Int.reduceLT, Int.reduceLE, Int.reduceNeg, Int.reduceEq, Nat.reduceLT, Nat.reduceSub, Nat.reduceMul, Nat.reduceBEq, Nat.reduceLeDiff, Int.reduceBEq, Int.reduceBNe, Int.reduceToNat, ne_eq, implies_true, bA]
                    refine loopF (fun k : Nat => ⟨ofL [(1, .slc (L.map act3)), (5, .ref b 0), (6, .int .i64 cap), (7, .int .i64 (i : Int)), (13, .int .i64 (sumA (A2.take k))), (14, .osl n3 0 A2.length), (15, .int .i64 (k : Int))], o3⟩) (fun k => k ≤ A2.length) (fun k => A2.length - k) 0 ?_ (Nat.zero_le _) ?_
                    · simp (config := {maxSteps := 4000000}) only [U_law13_LedgerSums, reduceIte, reduceCtorEq, Nat.reduceEqDiff, Nat.reduceAdd, Int.reduceLT, Int.reduceLE, Int.reduceNeg, Int.reduceEq, Nat.reduceLT, Nat.reduceSub, Nat.reduceMul, Nat.reduceBEq, Nat.reduceLeDiff, Int.reduceBEq, Int.reduceBNe, Int.reduceToNat, ne_eq, implies_true, bA]
                      all_goals rfl
                    · intro k hk3
                      by_cases hlt3 : k < A2.length
                      · have d3 : decide ((k : Int) < (A2.length : Int)) = true := by simpa using hlt3
                        have hlt3' : k < (A2.map (·.id)).length := by simpa using hlt3
                        have hid3 : (A2.map (·.id))[k] = A2[k].id := by simp
                        have i1 := islO_map (g := fun n : Int => [PV.int .i64 n]) (l := A2.map (·.id)) (e := 1) (o := n3) (m := A2.length) (k := .i64) (by simp) hlt3'
                        have i2 := ldL_map (g := fun n : Int => [PV.int .i64 n]) (l := A2.map (·.id)) (e := 1) (len := A2.length) (off := 0) (n := 1) (by simp) hlt3' (by simp)
                        rw [hid3] at i2
                        have hof := hL3.of A2[k].id
                        rw [ofS_get hk2.srt hlt3] at hof
                        have hu := sumA_take hk2.use (k + 1)
                        have hge := sumA_get hlt3
                        have hun := hk2.use _ (List.getElem_mem hlt3)
                        have du : decide (A2[k].used < 0) = false := by simp; omega
                        have e3 : IntKind.i64.wrap (sumA (A2.take k) + A2[k].used) = sumA (A2.take (k + 1)) := by rw [wrapI (by omega) (by omega), hge]
                        have e4 : IntKind.i64.wrap ((k : Int) + 1) = ((k + 1 : Nat) : Int) := by rw [wrapI (by omega) (by omega)]; omega
                        simp (config := {maxSteps := 4000000}) only [U_law13_LedgerSums, d3, hn3, i1, i2, rowsZ, hr32, reduceIte, reduceCtorEq, Nat.reduceEqDiff, Nat.reduceAdd, Int.reduceLT, Int.reduceLE, Int.reduceNeg, Int.reduceEq, Nat.reduceLT, Nat.reduceSub, Nat.reduceMul, Nat.reduceBEq, Nat.reduceLeDiff, Int.reduceBEq, Int.reduceBNe, Int.reduceToNat, ne_eq, implies_true, bA]
                        refine callR hof ?_
                        simp (config := {maxSteps := 4000000}) only [U_law13_LedgerSums, du, e3, e4, reduceIte, reduceCtorEq, Nat.reduceEqDiff, Nat.reduceAdd, Int.reduceLT, Int.reduceLE, Int.reduceNeg, Int.reduceEq, Nat.reduceLT, Nat.reduceSub, Nat.reduceMul, Nat.reduceBEq, Nat.reduceLeDiff, Int.reduceBEq, Int.reduceBNe, Int.reduceToNat, ne_eq, implies_true, bA]
                        exact ⟨k + 1, rfl, hlt3, by omega⟩
                      · have d3 : decide ((k : Int) < (A2.length : Int)) = false := by simpa using hlt3
                        have hA3 : A2.take k = A2 := List.take_of_length_le (by omega)
                        simp (config := {maxSteps := 4000000}) only [U_law13_LedgerSums, d3, hn3, hr3, hrl3, hA3, reduceIte, reduceCtorEq, Nat.reduceEqDiff, Nat.reduceAdd, Int.reduceLT, Int.reduceLE, Int.reduceNeg, Int.reduceEq, Nat.reduceLT, Nat.reduceSub, Nat.reduceMul, Nat.reduceBEq, Nat.reduceLeDiff, Int.reduceBEq, Int.reduceBNe, Int.reduceToNat, ne_eq, implies_true, bA]
                        refine callR hL3.total ?_
                        simp (config := {maxSteps := 4000000}) only [U_law13_LedgerSums, neS, dg, reduceIte, reduceCtorEq, Nat.reduceEqDiff, Nat.reduceAdd, Int.reduceLT, Int.reduceLE, Int.reduceNeg, Int.reduceEq, Nat.reduceLT, Nat.reduceSub, Nat.reduceMul, Nat.reduceBEq, Nat.reduceLeDiff, Int.reduceBEq, Int.reduceBNe, Int.reduceToNat, ne_eq, implies_true, bA]
                        refine callR hL3.left ?_
                        simp (config := {maxSteps := 4000000}) only [U_law13_LedgerSums, neS, e13, e2, reduceIte, reduceCtorEq, Nat.reduceEqDiff, Nat.reduceAdd, Int.reduceLT, Int.reduceLE, Int.reduceNeg, Int.reduceEq, Nat.reduceLT, Nat.reduceSub, Nat.reduceMul, Nat.reduceBEq, Nat.reduceLeDiff, Int.reduceBEq, Int.reduceBNe, Int.reduceToNat, ne_eq, implies_true, bA]
                        exact ⟨(o3, fp2, A2, i + 1), rfl, hL3, by simp only; omega⟩
                  | false =>
                    have hc0 : (chargeS cap A id n).2 = 71 := by have := of_decide_eq_false dl; rw [chargeS, if_neg hn0, hg]; simp only; rw [if_pos (by omega)]
                    simp (config := {maxSteps := 4000000}) only [U_law13_LedgerSums, isl, act3, dn, ho4, hc0, e1, dl, reduceIte, reduceCtorEq, Nat.reduceEqDiff, Nat.reduceAdd, Int.reduceLT, Int.reduceLE, Int.reduceNeg, Int.reduceEq, Nat.reduceLT, Nat.reduceSub, Nat.reduceMul, Nat.reduceBEq, Nat.reduceLeDiff, Int.reduceBEq, Int.reduceBNe, Int.reduceToNat, ne_eq, implies_true, bA]
                    have hk2 := hL2.ok
                    have h82 := hk2.len
                    refine callM hL2.ids ?_
                    rintro r o3 ⟨n3, rfl, hn3, ex3, hex3⟩
                    have hL3 : Led o3 fp2 b cap (chargeS cap A id n).1 := by rw [hex3]; exact hL2.app
                    have hl3 : (rowsZ .i64 (((chargeS cap A id n).1).map (·.id))).length = ((chargeS cap A id n).1).length := by simp [rowsZ]
                    have hr3 : rowsO (some (AObj.list 1 (rowsZ .i64 (((chargeS cap A id n).1).map (·.id))))) 0 ((chargeS cap A id n).1).length = some (rowsZ .i64 (((chargeS cap A id n).1).map (·.id))) := rowsO_all hl3.symm
                    have hr32 : rowsO (some (AObj.list 1 (List.map (fun n : Int => [PV.int .i64 n]) (List.map (fun x : Acc => x.id) ((chargeS cap A id n).1))))) 0 ((chargeS cap A id n).1).length = some (List.map (fun n : Int => [PV.int .i64 n]) (List.map (fun x : Acc => x.id) ((chargeS cap A id n).1))) := hr3
                    have hrl3 : ((rowsZ .i64 (((chargeS cap A id n).1).map (·.id))).length : Int) = (((chargeS cap A id n).1).length : Int) := by rw [hl3]
                    clear hex3
                    generalize hAA : (chargeS cap A id n).1 = A2 at hL3 hn3 hl3 hr3 hr32 hrl3 hk2 h82 ⊢
                    have s0 := sumA_nn hk2.use
                    have s1 := hk2.c0
                    have s2 := hk2.c1
                    have s3 := hk2.sum
                    have e13 : IntKind.i64.wrap (cap - sumA A2) = cap - sumA A2 := wrapI (by omega) (by omega)
                    have dg : decide (cap < sumA A2) = false := by simp; omega
                    simp (config := {maxSteps := 4000000}) only [U_law13_LedgerSums, reduceIte, reduceCtorEq, Nat.reduceEqDiff, Nat.reduceAdd, Int.reduceLT, Int.reduceLE, Int.reduceNeg, Int.reduceEq, Nat.reduceLT, Nat.reduceSub, Nat.reduceMul, Nat.reduceBEq, Nat.reduceLeDiff, Int.reduceBEq, Int.reduceBNe, Int.reduceToNat, ne_eq, implies_true, bA]
                    refine loopF (fun k : Nat => ⟨ofL [(1, .slc (L.map act3)), (5, .ref b 0), (6, .int .i64 cap), (7, .int .i64 (i : Int)), (13, .int .i64 (sumA (A2.take k))), (14, .osl n3 0 A2.length), (15, .int .i64 (k : Int))], o3⟩) (fun k => k ≤ A2.length) (fun k => A2.length - k) 0 ?_ (Nat.zero_le _) ?_
                    · simp (config := {maxSteps := 4000000}) only [U_law13_LedgerSums, reduceIte, reduceCtorEq, Nat.reduceEqDiff, Nat.reduceAdd, Int.reduceLT, Int.reduceLE, Int.reduceNeg, Int.reduceEq, Nat.reduceLT, Nat.reduceSub, Nat.reduceMul, Nat.reduceBEq, Nat.reduceLeDiff, Int.reduceBEq, Int.reduceBNe, Int.reduceToNat, ne_eq, implies_true, bA]
                      all_goals rfl
                    · intro k hk3
                      by_cases hlt3 : k < A2.length
                      · have d3 : decide ((k : Int) < (A2.length : Int)) = true := by simpa using hlt3
                        have hlt3' : k < (A2.map (·.id)).length := by simpa using hlt3
                        have hid3 : (A2.map (·.id))[k] = A2[k].id := by simp
                        have i1 := islO_map (g := fun n : Int => [PV.int .i64 n]) (l := A2.map (·.id)) (e := 1) (o := n3) (m := A2.length) (k := .i64) (by simp) hlt3'
                        have i2 := ldL_map (g := fun n : Int => [PV.int .i64 n]) (l := A2.map (·.id)) (e := 1) (len := A2.length) (off := 0) (n := 1) (by simp) hlt3' (by simp)
                        rw [hid3] at i2
                        have hof := hL3.of A2[k].id
                        rw [ofS_get hk2.srt hlt3] at hof
                        have hu := sumA_take hk2.use (k + 1)
                        have hge := sumA_get hlt3
                        have hun := hk2.use _ (List.getElem_mem hlt3)
                        have du : decide (A2[k].used < 0) = false := by simp; omega
                        have e3 : IntKind.i64.wrap (sumA (A2.take k) + A2[k].used) = sumA (A2.take (k + 1)) := by rw [wrapI (by omega) (by omega), hge]
                        have e4 : IntKind.i64.wrap ((k : Int) + 1) = ((k + 1 : Nat) : Int) := by rw [wrapI (by omega) (by omega)]; omega
                        simp (config := {maxSteps := 4000000}) only [U_law13_LedgerSums, d3, hn3, i1, i2, rowsZ, hr32, reduceIte, reduceCtorEq, Nat.reduceEqDiff, Nat.reduceAdd, Int.reduceLT, Int.reduceLE, Int.reduceNeg, Int.reduceEq, Nat.reduceLT, Nat.reduceSub, Nat.reduceMul, Nat.reduceBEq, Nat.reduceLeDiff, Int.reduceBEq, Int.reduceBNe, Int.reduceToNat, ne_eq, implies_true, bA]
                        refine callR hof ?_
                        simp (config := {maxSteps := 4000000}) only [U_law13_LedgerSums, du, e3, e4, reduceIte, reduceCtorEq, Nat.reduceEqDiff, Nat.reduceAdd, Int.reduceLT, Int.reduceLE, Int.reduceNeg, Int.reduceEq, Nat.reduceLT, Nat.reduceSub, Nat.reduceMul, Nat.reduceBEq, Nat.reduceLeDiff, Int.reduceBEq, Int.reduceBNe, Int.reduceToNat, ne_eq, implies_true, bA]
                        exact ⟨k + 1, rfl, hlt3, by omega⟩
                      · have d3 : decide ((k : Int) < (A2.length : Int)) = false := by simpa using hlt3
                        have hA3 : A2.take k = A2 := List.take_of_length_le (by omega)
                        simp (config := {maxSteps := 4000000}) only [U_law13_LedgerSums, d3, hn3, hr3, hrl3, hA3, reduceIte, reduceCtorEq, Nat.reduceEqDiff, Nat.reduceAdd, Int.reduceLT, Int.reduceLE, Int.reduceNeg, Int.reduceEq, Nat.reduceLT, Nat.reduceSub, Nat.reduceMul, Nat.reduceBEq, Nat.reduceLeDiff, Int.reduceBEq, Int.reduceBNe, Int.reduceToNat, ne_eq, implies_true, bA]
                        refine callR hL3.total ?_
                        simp (config := {maxSteps := 4000000}) only [U_law13_LedgerSums, neS, dg, reduceIte, reduceCtorEq, Nat.reduceEqDiff, Nat.reduceAdd, Int.reduceLT, Int.reduceLE, Int.reduceNeg, Int.reduceEq, Nat.reduceLT, Nat.reduceSub, Nat.reduceMul, Nat.reduceBEq, Nat.reduceLeDiff, Int.reduceBEq, Int.reduceBNe, Int.reduceToNat, ne_eq, implies_true, bA]
                        refine callR hL3.left ?_
                        simp (config := {maxSteps := 4000000}) only [U_law13_LedgerSums, neS, e13, e2, reduceIte, reduceCtorEq, Nat.reduceEqDiff, Nat.reduceAdd, Int.reduceLT, Int.reduceLE, Int.reduceNeg, Int.reduceEq, Nat.reduceLT, Nat.reduceSub, Nat.reduceMul, Nat.reduceBEq, Nat.reduceLeDiff, Int.reduceBEq, Int.reduceBNe, Int.reduceToNat, ne_eq, implies_true, bA]
                        exact ⟨(o3, fp2, A2, i + 1), rfl, hL3, by simp only; omega⟩
            | false =>
              cases d4 : (kd == 4) with
              | true =>
                simp (config := {maxSteps := 4000000}) only [U_law13_LedgerSums, isl, act3, d0, d1, d3, d4, reduceIte, reduceCtorEq, Nat.reduceEqDiff, Nat.reduceAdd, Int.reduceLT, Int.reduceLE, Int.reduceNeg, Int.reduceEq, Nat.reduceLT, Nat.reduceSub, Nat.reduceMul, Nat.reduceBEq, Nat.reduceLeDiff, Int.reduceBEq, Int.reduceBNe, Int.reduceToNat, ne_eq, implies_true, bA]
                refine callM (hL.credit id n) ?_
                rintro r o2 ⟨rfl, fp2, hL2, hf2⟩
                simp (config := {maxSteps := 4000000}) only [U_law13_LedgerSums, isl, act3, reduceIte, reduceCtorEq, Nat.reduceEqDiff, Nat.reduceAdd, Int.reduceLT, Int.reduceLE, Int.reduceNeg, Int.reduceEq, Nat.reduceLT, Nat.reduceSub, Nat.reduceMul, Nat.reduceBEq, Nat.reduceLeDiff, Int.reduceBEq, Int.reduceBNe, Int.reduceToNat, ne_eq, implies_true, bA]
                have hk2 := hL2.ok
                have h82 := hk2.len
                refine callM hL2.ids ?_
                rintro r o3 ⟨n3, rfl, hn3, ex3, hex3⟩
                have hL3 : Led o3 fp2 b cap (creditS A id n).1 := by rw [hex3]; exact hL2.app
                have hl3 : (rowsZ .i64 (((creditS A id n).1).map (·.id))).length = ((creditS A id n).1).length := by simp [rowsZ]
                have hr3 : rowsO (some (AObj.list 1 (rowsZ .i64 (((creditS A id n).1).map (·.id))))) 0 ((creditS A id n).1).length = some (rowsZ .i64 (((creditS A id n).1).map (·.id))) := rowsO_all hl3.symm
                have hr32 : rowsO (some (AObj.list 1 (List.map (fun n : Int => [PV.int .i64 n]) (List.map (fun x : Acc => x.id) ((creditS A id n).1))))) 0 ((creditS A id n).1).length = some (List.map (fun n : Int => [PV.int .i64 n]) (List.map (fun x : Acc => x.id) ((creditS A id n).1))) := hr3
                have hrl3 : ((rowsZ .i64 (((creditS A id n).1).map (·.id))).length : Int) = (((creditS A id n).1).length : Int) := by rw [hl3]
                clear hex3
                generalize hAA : (creditS A id n).1 = A2 at hL3 hn3 hl3 hr3 hr32 hrl3 hk2 h82 ⊢
                have s0 := sumA_nn hk2.use
                have s1 := hk2.c0
                have s2 := hk2.c1
                have s3 := hk2.sum
                have e13 : IntKind.i64.wrap (cap - sumA A2) = cap - sumA A2 := wrapI (by omega) (by omega)
                have dg : decide (cap < sumA A2) = false := by simp; omega
                simp (config := {maxSteps := 4000000}) only [U_law13_LedgerSums, reduceIte, reduceCtorEq, Nat.reduceEqDiff, Nat.reduceAdd, Int.reduceLT, Int.reduceLE, Int.reduceNeg, Int.reduceEq, Nat.reduceLT, Nat.reduceSub, Nat.reduceMul, Nat.reduceBEq, Nat.reduceLeDiff, Int.reduceBEq, Int.reduceBNe, Int.reduceToNat, ne_eq, implies_true, bA]
                refine loopF (fun k : Nat => ⟨ofL [(1, .slc (L.map act3)), (5, .ref b 0), (6, .int .i64 cap), (7, .int .i64 (i : Int)), (13, .int .i64 (sumA (A2.take k))), (14, .osl n3 0 A2.length), (15, .int .i64 (k : Int))], o3⟩) (fun k => k ≤ A2.length) (fun k => A2.length - k) 0 ?_ (Nat.zero_le _) ?_
                · simp (config := {maxSteps := 4000000}) only [U_law13_LedgerSums, reduceIte, reduceCtorEq, Nat.reduceEqDiff, Nat.reduceAdd, Int.reduceLT, Int.reduceLE, Int.reduceNeg, Int.reduceEq, Nat.reduceLT, Nat.reduceSub, Nat.reduceMul, Nat.reduceBEq, Nat.reduceLeDiff, Int.reduceBEq, Int.reduceBNe, Int.reduceToNat, ne_eq, implies_true, bA]
                  all_goals rfl
                · intro k hk3
                  by_cases hlt3 : k < A2.length
                  · have d3 : decide ((k : Int) < (A2.length : Int)) = true := by simpa using hlt3
                    have hlt3' : k < (A2.map (·.id)).length := by simpa using hlt3
                    have hid3 : (A2.map (·.id))[k] = A2[k].id := by simp
                    have i1 := islO_map (g := fun n : Int => [PV.int .i64 n]) (l := A2.map (·.id)) (e := 1) (o := n3) (m := A2.length) (k := .i64) (by simp) hlt3'
                    have i2 := ldL_map (g := fun n : Int => [PV.int .i64 n]) (l := A2.map (·.id)) (e := 1) (len := A2.length) (off := 0) (n := 1) (by simp) hlt3' (by simp)
                    rw [hid3] at i2
                    have hof := hL3.of A2[k].id
                    rw [ofS_get hk2.srt hlt3] at hof
                    have hu := sumA_take hk2.use (k + 1)
                    have hge := sumA_get hlt3
                    have hun := hk2.use _ (List.getElem_mem hlt3)
                    have du : decide (A2[k].used < 0) = false := by simp; omega
                    have e3 : IntKind.i64.wrap (sumA (A2.take k) + A2[k].used) = sumA (A2.take (k + 1)) := by rw [wrapI (by omega) (by omega), hge]
                    have e4 : IntKind.i64.wrap ((k : Int) + 1) = ((k + 1 : Nat) : Int) := by rw [wrapI (by omega) (by omega)]; omega
                    simp (config := {maxSteps := 4000000}) only [U_law13_LedgerSums, d3, hn3, i1, i2, rowsZ, hr32, reduceIte, reduceCtorEq, Nat.reduceEqDiff, Nat.reduceAdd, Int.reduceLT, Int.reduceLE, Int.reduceNeg, Int.reduceEq, Nat.reduceLT, Nat.reduceSub, Nat.reduceMul, Nat.reduceBEq, Nat.reduceLeDiff, Int.reduceBEq, Int.reduceBNe, Int.reduceToNat, ne_eq, implies_true, bA]
                    refine callR hof ?_
                    simp (config := {maxSteps := 4000000}) only [U_law13_LedgerSums, du, e3, e4, reduceIte, reduceCtorEq, Nat.reduceEqDiff, Nat.reduceAdd, Int.reduceLT, Int.reduceLE, Int.reduceNeg, Int.reduceEq, Nat.reduceLT, Nat.reduceSub, Nat.reduceMul, Nat.reduceBEq, Nat.reduceLeDiff, Int.reduceBEq, Int.reduceBNe, Int.reduceToNat, ne_eq, implies_true, bA]
                    exact ⟨k + 1, rfl, hlt3, by omega⟩
                  · have d3 : decide ((k : Int) < (A2.length : Int)) = false := by simpa using hlt3
                    have hA3 : A2.take k = A2 := List.take_of_length_le (by omega)
                    simp (config := {maxSteps := 4000000}) only [U_law13_LedgerSums, d3, hn3, hr3, hrl3, hA3, reduceIte, reduceCtorEq, Nat.reduceEqDiff, Nat.reduceAdd, Int.reduceLT, Int.reduceLE, Int.reduceNeg, Int.reduceEq, Nat.reduceLT, Nat.reduceSub, Nat.reduceMul, Nat.reduceBEq, Nat.reduceLeDiff, Int.reduceBEq, Int.reduceBNe, Int.reduceToNat, ne_eq, implies_true, bA]
                    refine callR hL3.total ?_
                    simp (config := {maxSteps := 4000000}) only [U_law13_LedgerSums, neS, dg, reduceIte, reduceCtorEq, Nat.reduceEqDiff, Nat.reduceAdd, Int.reduceLT, Int.reduceLE, Int.reduceNeg, Int.reduceEq, Nat.reduceLT, Nat.reduceSub, Nat.reduceMul, Nat.reduceBEq, Nat.reduceLeDiff, Int.reduceBEq, Int.reduceBNe, Int.reduceToNat, ne_eq, implies_true, bA]
                    refine callR hL3.left ?_
                    simp (config := {maxSteps := 4000000}) only [U_law13_LedgerSums, neS, e13, e2, reduceIte, reduceCtorEq, Nat.reduceEqDiff, Nat.reduceAdd, Int.reduceLT, Int.reduceLE, Int.reduceNeg, Int.reduceEq, Nat.reduceLT, Nat.reduceSub, Nat.reduceMul, Nat.reduceBEq, Nat.reduceLeDiff, Int.reduceBEq, Int.reduceBNe, Int.reduceToNat, ne_eq, implies_true, bA]
                    exact ⟨(o3, fp2, A2, i + 1), rfl, hL3, by simp only; omega⟩
              | false =>
                simp (config := {maxSteps := 4000000}) only [U_law13_LedgerSums, isl, act3, d0, d1, d3, d4, reduceIte, reduceCtorEq, Nat.reduceEqDiff, Nat.reduceAdd, Int.reduceLT, Int.reduceLE, Int.reduceNeg, Int.reduceEq, Nat.reduceLT, Nat.reduceSub, Nat.reduceMul, Nat.reduceBEq, Nat.reduceLeDiff, Int.reduceBEq, Int.reduceBNe, Int.reduceToNat, ne_eq, implies_true, bA]
                have hk2 := hL.ok
                have h82 := hk2.len
                refine callM hL.ids ?_
                rintro r o3 ⟨n3, rfl, hn3, ex3, hex3⟩
                have hL3 : Led o3 fp b cap A := by rw [hex3]; exact hL.app
                have hl3 : (rowsZ .i64 ((A).map (·.id))).length = (A).length := by simp [rowsZ]
                have hr3 : rowsO (some (AObj.list 1 (rowsZ .i64 ((A).map (·.id))))) 0 (A).length = some (rowsZ .i64 ((A).map (·.id))) := rowsO_all hl3.symm
                have hr32 : rowsO (some (AObj.list 1 (List.map (fun n : Int => [PV.int .i64 n]) (List.map (fun x : Acc => x.id) (A))))) 0 (A).length = some (List.map (fun n : Int => [PV.int .i64 n]) (List.map (fun x : Acc => x.id) (A))) := hr3
                have hrl3 : ((rowsZ .i64 ((A).map (·.id))).length : Int) = ((A).length : Int) := by rw [hl3]
                clear hex3
                generalize hAA : A = A2 at hL3 hn3 hl3 hr3 hr32 hrl3 hk2 h82 ⊢
                have s0 := sumA_nn hk2.use
                have s1 := hk2.c0
                have s2 := hk2.c1
                have s3 := hk2.sum
                have e13 : IntKind.i64.wrap (cap - sumA A2) = cap - sumA A2 := wrapI (by omega) (by omega)
                have dg : decide (cap < sumA A2) = false := by simp; omega
                simp (config := {maxSteps := 4000000}) only [U_law13_LedgerSums, reduceIte, reduceCtorEq, Nat.reduceEqDiff, Nat.reduceAdd, Int.reduceLT, Int.reduceLE, Int.reduceNeg, Int.reduceEq, Nat.reduceLT, Nat.reduceSub, Nat.reduceMul, Nat.reduceBEq, Nat.reduceLeDiff, Int.reduceBEq, Int.reduceBNe, Int.reduceToNat, ne_eq, implies_true, bA]
                refine loopF (fun k : Nat => ⟨ofL [(1, .slc (L.map act3)), (5, .ref b 0), (6, .int .i64 cap), (7, .int .i64 (i : Int)), (13, .int .i64 (sumA (A2.take k))), (14, .osl n3 0 A2.length), (15, .int .i64 (k : Int))], o3⟩) (fun k => k ≤ A2.length) (fun k => A2.length - k) 0 ?_ (Nat.zero_le _) ?_
                · simp (config := {maxSteps := 4000000}) only [U_law13_LedgerSums, reduceIte, reduceCtorEq, Nat.reduceEqDiff, Nat.reduceAdd, Int.reduceLT, Int.reduceLE, Int.reduceNeg, Int.reduceEq, Nat.reduceLT, Nat.reduceSub, Nat.reduceMul, Nat.reduceBEq, Nat.reduceLeDiff, Int.reduceBEq, Int.reduceBNe, Int.reduceToNat, ne_eq, implies_true, bA]
                  all_goals rfl
                · intro k hk3
                  by_cases hlt3 : k < A2.length
                  · have d3 : decide ((k : Int) < (A2.length : Int)) = true := by simpa using hlt3
                    have hlt3' : k < (A2.map (·.id)).length := by simpa using hlt3
                    have hid3 : (A2.map (·.id))[k] = A2[k].id := by simp
                    have i1 := islO_map (g := fun n : Int => [PV.int .i64 n]) (l := A2.map (·.id)) (e := 1) (o := n3) (m := A2.length) (k := .i64) (by simp) hlt3'
                    have i2 := ldL_map (g := fun n : Int => [PV.int .i64 n]) (l := A2.map (·.id)) (e := 1) (len := A2.length) (off := 0) (n := 1) (by simp) hlt3' (by simp)
                    rw [hid3] at i2
                    have hof := hL3.of A2[k].id
                    rw [ofS_get hk2.srt hlt3] at hof
                    have hu := sumA_take hk2.use (k + 1)
                    have hge := sumA_get hlt3
                    have hun := hk2.use _ (List.getElem_mem hlt3)
                    have du : decide (A2[k].used < 0) = false := by simp; omega
                    have e3 : IntKind.i64.wrap (sumA (A2.take k) + A2[k].used) = sumA (A2.take (k + 1)) := by rw [wrapI (by omega) (by omega), hge]
                    have e4 : IntKind.i64.wrap ((k : Int) + 1) = ((k + 1 : Nat) : Int) := by rw [wrapI (by omega) (by omega)]; omega
                    simp (config := {maxSteps := 4000000}) only [U_law13_LedgerSums, d3, hn3, i1, i2, rowsZ, hr32, reduceIte, reduceCtorEq, Nat.reduceEqDiff, Nat.reduceAdd, Int.reduceLT, Int.reduceLE, Int.reduceNeg, Int.reduceEq, Nat.reduceLT, Nat.reduceSub, Nat.reduceMul, Nat.reduceBEq, Nat.reduceLeDiff, Int.reduceBEq, Int.reduceBNe, Int.reduceToNat, ne_eq, implies_true, bA]
                    refine callR hof ?_
                    simp (config := {maxSteps := 4000000}) only [U_law13_LedgerSums, du, e3, e4, reduceIte, reduceCtorEq, Nat.reduceEqDiff, Nat.reduceAdd, Int.reduceLT, Int.reduceLE, Int.reduceNeg, Int.reduceEq, Nat.reduceLT, Nat.reduceSub, Nat.reduceMul, Nat.reduceBEq, Nat.reduceLeDiff, Int.reduceBEq, Int.reduceBNe, Int.reduceToNat, ne_eq, implies_true, bA]
                    exact ⟨k + 1, rfl, hlt3, by omega⟩
                  · have d3 : decide ((k : Int) < (A2.length : Int)) = false := by simpa using hlt3
                    have hA3 : A2.take k = A2 := List.take_of_length_le (by omega)
                    simp (config := {maxSteps := 4000000}) only [U_law13_LedgerSums, d3, hn3, hr3, hrl3, hA3, reduceIte, reduceCtorEq, Nat.reduceEqDiff, Nat.reduceAdd, Int.reduceLT, Int.reduceLE, Int.reduceNeg, Int.reduceEq, Nat.reduceLT, Nat.reduceSub, Nat.reduceMul, Nat.reduceBEq, Nat.reduceLeDiff, Int.reduceBEq, Int.reduceBNe, Int.reduceToNat, ne_eq, implies_true, bA]
                    refine callR hL3.total ?_
                    simp (config := {maxSteps := 4000000}) only [U_law13_LedgerSums, neS, dg, reduceIte, reduceCtorEq, Nat.reduceEqDiff, Nat.reduceAdd, Int.reduceLT, Int.reduceLE, Int.reduceNeg, Int.reduceEq, Nat.reduceLT, Nat.reduceSub, Nat.reduceMul, Nat.reduceBEq, Nat.reduceLeDiff, Int.reduceBEq, Int.reduceBNe, Int.reduceToNat, ne_eq, implies_true, bA]
                    refine callR hL3.left ?_
                    simp (config := {maxSteps := 4000000}) only [U_law13_LedgerSums, neS, e13, e2, reduceIte, reduceCtorEq, Nat.reduceEqDiff, Nat.reduceAdd, Int.reduceLT, Int.reduceLE, Int.reduceNeg, Int.reduceEq, Nat.reduceLT, Nat.reduceSub, Nat.reduceMul, Nat.reduceBEq, Nat.reduceLeDiff, Int.reduceBEq, Int.reduceBNe, Int.reduceToNat, ne_eq, implies_true, bA]
                    exact ⟨(o3, fp, A2, i + 1), rfl, hL3, by simp only; omega⟩
      · have d2 : decide ((i : Int) < 200) = false := by simp; omega
        simp (config := {maxSteps := 4000000}) only [U_law13_LedgerSums, d, d2, reduceIte, reduceCtorEq, Nat.reduceEqDiff, Nat.reduceAdd, Int.reduceLT, Int.reduceLE, Int.reduceNeg, Int.reduceEq, Nat.reduceLT, Nat.reduceSub, Nat.reduceMul, Nat.reduceBEq, Nat.reduceLeDiff, Int.reduceBEq, Int.reduceBNe, Int.reduceToNat, ne_eq, implies_true, bA]
    · have d : decide ((i : Int) < (L.length : Int)) = false := by simpa using hlt
      simp (config := {maxSteps := 4000000}) only [U_law13_LedgerSums, d, reduceIte, reduceCtorEq, Nat.reduceEqDiff, Nat.reduceAdd, Int.reduceLT, Int.reduceLE, Int.reduceNeg, Int.reduceEq, Nat.reduceLT, Nat.reduceSub, Nat.reduceMul, Nat.reduceBEq, Nat.reduceLeDiff, Int.reduceBEq, Int.reduceBNe, Int.reduceToNat, ne_eq, implies_true, bA]
end Go.Proofs.Ytokpmpbhpafncaa.Aw
