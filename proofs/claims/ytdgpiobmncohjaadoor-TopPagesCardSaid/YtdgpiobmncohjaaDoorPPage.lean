/-
  What the functions of the package 'page' compute, and the document's.
-/
import Derived.Test.YtdgpiobmncohjaaDoorPRow
import Derived.Test.YtdgpiobmncohjaaDoorMPage
set_option linter.unusedSimpArgs false
set_option linter.unusedVariables false
namespace Go.Proofs.YtdgpiobmncohjaaDoor.Aw
open Go.RowKit

abbrev pP (p : Pg) : PV := .agg (rowP p)
theorem in_spec (n m : Int) : PCall Tryd.prog 30 [.int .i64 n, .int .i64 m] (.bool (inS n m)) := by
  refine pcall_go Tryd.func30 comp_page_in ?_
  by_cases h0 : 0 ≤ n
  · have d0 := decide_eq_true h0
    simp (config := {maxSteps := 4000000}) only [U_page_in, d0, reduceIte, reduceCtorEq, Nat.reduceEqDiff, Nat.reduceAdd, Int.reduceLT, Int.reduceLE, Int.reduceNeg, Int.reduceEq, Nat.reduceLT, Nat.reduceSub, Nat.reduceMul, Nat.reduceBEq, Nat.reduceLeDiff, Int.reduceBEq, Int.reduceBNe, Int.reduceToNat, ne_eq, implies_true, bA]
    simp [inS, h0]
  · have d0 := decide_eq_false h0
    simp (config := {maxSteps := 4000000}) only [U_page_in, d0, reduceIte, reduceCtorEq, Nat.reduceEqDiff, Nat.reduceAdd, Int.reduceLT, Int.reduceLE, Int.reduceNeg, Int.reduceEq, Nat.reduceLT, Nat.reduceSub, Nat.reduceMul, Nat.reduceBEq, Nat.reduceLeDiff, Int.reduceBEq, Int.reduceBNe, Int.reduceToNat, ne_eq, implies_true, bA]
    simp [inS, h0]
theorem may_spec (p : Pg) : PCall Tryd.prog 17 [pP p] (.bool (mayB p)) := by
  refine pcall_go Tryd.func17 comp_page_may ?_
  by_cases h0 : 1 ≤ p.kd
  · have d0 := decide_eq_true h0
    by_cases h1 : p.kd ≤ 4
    · have d1 := decide_eq_true h1
      simp (config := {maxSteps := 4000000}) only [U_page_may, rowP, d0, d1, reduceIte, reduceCtorEq, Nat.reduceEqDiff, Nat.reduceAdd, Int.reduceLT, Int.reduceLE, Int.reduceNeg, Int.reduceEq, Nat.reduceLT, Nat.reduceSub, Nat.reduceMul, Nat.reduceBEq, Nat.reduceLeDiff, Int.reduceBEq, Int.reduceBNe, Int.reduceToNat, ne_eq, implies_true, bA]
      refine callI (in_spec p.sp 65535) ?_
      cases h2 : inS p.sp 65535 with
      | true =>
        simp (config := {maxSteps := 4000000}) only [U_page_may, rowP, d0, d1, reduceIte, reduceCtorEq, Nat.reduceEqDiff, Nat.reduceAdd, Int.reduceLT, Int.reduceLE, Int.reduceNeg, Int.reduceEq, Nat.reduceLT, Nat.reduceSub, Nat.reduceMul, Nat.reduceBEq, Nat.reduceLeDiff, Int.reduceBEq, Int.reduceBNe, Int.reduceToNat, ne_eq, implies_true, bA]
        refine callI (in_spec p.ky 4294967295) ?_
        cases h3 : inS p.ky 4294967295 with
        | true =>
          simp (config := {maxSteps := 4000000}) only [U_page_may, rowP, d0, d1, reduceIte, reduceCtorEq, Nat.reduceEqDiff, Nat.reduceAdd, Int.reduceLT, Int.reduceLE, Int.reduceNeg, Int.reduceEq, Nat.reduceLT, Nat.reduceSub, Nat.reduceMul, Nat.reduceBEq, Nat.reduceLeDiff, Int.reduceBEq, Int.reduceBNe, Int.reduceToNat, ne_eq, implies_true, bA]
          refine callI (in_spec p.sq 281474976710655) ?_
          cases h4 : inS p.sq 281474976710655 with
          | true =>
            simp (config := {maxSteps := 4000000}) only [U_page_may, rowP, d0, d1, reduceIte, reduceCtorEq, Nat.reduceEqDiff, Nat.reduceAdd, Int.reduceLT, Int.reduceLE, Int.reduceNeg, Int.reduceEq, Nat.reduceLT, Nat.reduceSub, Nat.reduceMul, Nat.reduceBEq, Nat.reduceLeDiff, Int.reduceBEq, Int.reduceBNe, Int.reduceToNat, ne_eq, implies_true, bA]
            simp [mayB, len100, h0, h1, h2, h3, h4]
          | false =>
            simp (config := {maxSteps := 4000000}) only [U_page_may, rowP, d0, d1, reduceIte, reduceCtorEq, Nat.reduceEqDiff, Nat.reduceAdd, Int.reduceLT, Int.reduceLE, Int.reduceNeg, Int.reduceEq, Nat.reduceLT, Nat.reduceSub, Nat.reduceMul, Nat.reduceBEq, Nat.reduceLeDiff, Int.reduceBEq, Int.reduceBNe, Int.reduceToNat, ne_eq, implies_true, bA]
            simp [mayB, len100, h0, h1, h2, h3, h4]
        | false =>
          simp (config := {maxSteps := 4000000}) only [U_page_may, rowP, d0, d1, reduceIte, reduceCtorEq, Nat.reduceEqDiff, Nat.reduceAdd, Int.reduceLT, Int.reduceLE, Int.reduceNeg, Int.reduceEq, Nat.reduceLT, Nat.reduceSub, Nat.reduceMul, Nat.reduceBEq, Nat.reduceLeDiff, Int.reduceBEq, Int.reduceBNe, Int.reduceToNat, ne_eq, implies_true, bA]
          simp [mayB, len100, h0, h1, h2, h3]
      | false =>
        simp (config := {maxSteps := 4000000}) only [U_page_may, rowP, d0, d1, reduceIte, reduceCtorEq, Nat.reduceEqDiff, Nat.reduceAdd, Int.reduceLT, Int.reduceLE, Int.reduceNeg, Int.reduceEq, Nat.reduceLT, Nat.reduceSub, Nat.reduceMul, Nat.reduceBEq, Nat.reduceLeDiff, Int.reduceBEq, Int.reduceBNe, Int.reduceToNat, ne_eq, implies_true, bA]
        simp [mayB, len100, h0, h1, h2]
    · have d1 := decide_eq_false h1
      simp (config := {maxSteps := 4000000}) only [U_page_may, rowP, d0, d1, reduceIte, reduceCtorEq, Nat.reduceEqDiff, Nat.reduceAdd, Int.reduceLT, Int.reduceLE, Int.reduceNeg, Int.reduceEq, Nat.reduceLT, Nat.reduceSub, Nat.reduceMul, Nat.reduceBEq, Nat.reduceLeDiff, Int.reduceBEq, Int.reduceBNe, Int.reduceToNat, ne_eq, implies_true, bA]
      simp [mayB, len100, h0, h1]
  · have d0 := decide_eq_false h0
    simp (config := {maxSteps := 4000000}) only [U_page_may, rowP, d0, reduceIte, reduceCtorEq, Nat.reduceEqDiff, Nat.reduceAdd, Int.reduceLT, Int.reduceLE, Int.reduceNeg, Int.reduceEq, Nat.reduceLT, Nat.reduceSub, Nat.reduceMul, Nat.reduceBEq, Nat.reduceLeDiff, Int.reduceBEq, Int.reduceBNe, Int.reduceToNat, ne_eq, implies_true, bA]
    simp [mayB, len100, h0]
/-- Whether a page takes the place of another one. -/
def newB (a b : Pg) : Bool := mayB a && (mayB b && (a.kd == b.kd && (a.sp == b.sp && (a.ky == b.ky && decide (b.sq < a.sq)))))
/-- The name of a kind. -/
def nameS (k : Int) : List UInt8 := if k = 1 then [100, 97, 116, 97] else if k = 2 then [108, 101, 97, 102] else if k = 3 then [105, 110, 110, 101, 114] else if k = 4 then [114, 111, 111, 116] else [63]
theorem islV_name (i : Nat) (h : i < 4) (ob fb) : islV ob fb 1 (.slc [[.str [100, 97, 116, 97]], [.str [108, 101, 97, 102]], [.str [105, 110, 110, 101, 114]], [.str [114, 111, 111, 116]]]) (.int .i64 (i : Int)) = some (.fptr [.str (nameS ((i : Int) + 1))]) := by
  match i, h with
  | 0, _ => rfl
  | 1, _ => rfl
  | 2, _ => rfl
  | 3, _ => rfl
end Go.Proofs.YtdgpiobmncohjaaDoor.Aw
