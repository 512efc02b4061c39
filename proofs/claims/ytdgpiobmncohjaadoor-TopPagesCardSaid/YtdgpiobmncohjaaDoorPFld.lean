/-
  What the functions of the package 'field' compute.
-/
import Derived.Test.YtdgpiobmncohjaaDoorCode
import Derived.Test.YtdgpiobmncohjaaDoorMFld
set_option linter.unusedSimpArgs false
set_option linter.unusedVariables false
namespace Go.Proofs.YtdgpiobmncohjaaDoor.Aw
open Go.RowKit

theorem width_spec (w : Int) : PCall Tryd.prog 52 [.int .i64 w] (.bool (decide (1 ≤ w) && decide (w ≤ 8))) := by
  refine pcall_go Tryd.func52 comp_field_width ?_
  by_cases h : 1 ≤ w
  · have d : decide (1 ≤ w) = true := by simp [h]
    simp (config := {maxSteps := 4000000}) only [U_field_width, d, reduceIte, reduceCtorEq, Nat.reduceEqDiff, Nat.reduceAdd, Int.reduceLT, Int.reduceLE, Int.reduceNeg, Int.reduceEq, Nat.reduceLT, Nat.reduceSub, Nat.reduceMul, Nat.reduceBEq, Nat.reduceLeDiff, Int.reduceBEq, Int.reduceBNe, Int.reduceToNat, ne_eq, implies_true, bA]
  · have d : decide (1 ≤ w) = false := by simp [h]
    simp (config := {maxSteps := 4000000}) only [U_field_width, d, reduceIte, reduceCtorEq, Nat.reduceEqDiff, Nat.reduceAdd, Int.reduceLT, Int.reduceLE, Int.reduceNeg, Int.reduceEq, Nat.reduceLT, Nat.reduceSub, Nat.reduceMul, Nat.reduceBEq, Nat.reduceLeDiff, Int.reduceBEq, Int.reduceBNe, Int.reduceToNat, ne_eq, implies_true, bA]
theorem fits_spec (n w : Nat) (hn : n < 18446744073709551616) (h1 : 1 ≤ w) (h8 : w ≤ 8) : PCall Tryd.prog 33 [.int .u64 n, .int .i64 w] (.bool (decide (n < 256 ^ w))) := by
  refine pcall_go Tryd.func33 comp_field_fits ?_
  have e : IntKind.i64.wrap (8 * (w : Int)) = ((8 * w : Nat) : Int) := by rw [wrapI (by omega) (by omega)]; omega
  by_cases h : w = 8
  · have d : ((w : Int) == 8) = true := by simp; omega
    have d2 : decide (n < 256 ^ w) = true := by subst h; simpa using hn
    simp (config := {maxSteps := 4000000}) only [U_field_fits, d, d2, reduceIte, reduceCtorEq, Nat.reduceEqDiff, Nat.reduceAdd, Int.reduceLT, Int.reduceLE, Int.reduceNeg, Int.reduceEq, Nat.reduceLT, Nat.reduceSub, Nat.reduceMul, Nat.reduceBEq, Nat.reduceLeDiff, Int.reduceBEq, Int.reduceBNe, Int.reduceToNat, ne_eq, implies_true, bA]
  · have d : ((w : Int) == 8) = false := by simp; omega
    simp (config := {maxSteps := 4000000}) only [U_field_fits, d, e, shr64N hn, reduceIte, reduceCtorEq, Nat.reduceEqDiff, Nat.reduceAdd, Int.reduceLT, Int.reduceLE, Int.reduceNeg, Int.reduceEq, Nat.reduceLT, Nat.reduceSub, Nat.reduceMul, Nat.reduceBEq, Nat.reduceLeDiff, Int.reduceBEq, Int.reduceBNe, Int.reduceToNat, ne_eq, implies_true, bA]
    rw [pow256]
    have : (n / 2 ^ (8 * w) = 0) ↔ n < 2 ^ (8 * w) := Nat.div_eq_zero_iff_lt (Nat.pow_pos (by decide))
    by_cases hd : n < 2 ^ (8 * w)
    · have e0 := this.2 hd
      rw [e0]; simp [hd]
    · have h0 : ¬ n / 2 ^ (8 * w) = 0 := fun h => hd (this.1 h)
      have h1 : (((n / 2 ^ (8 * w) : Nat) : Int) == 0) = false := by simp only [beq_eq_false_iff_ne, ne_eq]; omega
      rw [h1]; simp [hd]
theorem laid_1 (n : Nat) (hn : n < 18446744073709551616) : PCall Tryd.prog 35 [.int .u64 n, .int .i64 1] (.str (leB 1 n)) := by
  refine pcall_go Tryd.func35 comp_field_laid ?_
  simp (config := {maxSteps := 4000000}) only [U_field_laid, byte8, shr64' hn, reduceIte, reduceCtorEq, Nat.reduceEqDiff, Nat.reduceAdd, Int.reduceLT, Int.reduceLE, Int.reduceNeg, Int.reduceEq, Nat.reduceLT, Nat.reduceSub, Nat.reduceMul, Nat.reduceBEq, Nat.reduceLeDiff, Int.reduceBEq, Int.reduceBNe, Int.reduceToNat, ne_eq, implies_true, bA]
  simp [leB, Nat.div_div_eq_div_mul]
theorem laid_2 (n : Nat) (hn : n < 18446744073709551616) : PCall Tryd.prog 35 [.int .u64 n, .int .i64 2] (.str (leB 2 n)) := by
  refine pcall_go Tryd.func35 comp_field_laid ?_
  simp (config := {maxSteps := 4000000}) only [U_field_laid, byte8, shr64' hn, reduceIte, reduceCtorEq, Nat.reduceEqDiff, Nat.reduceAdd, Int.reduceLT, Int.reduceLE, Int.reduceNeg, Int.reduceEq, Nat.reduceLT, Nat.reduceSub, Nat.reduceMul, Nat.reduceBEq, Nat.reduceLeDiff, Int.reduceBEq, Int.reduceBNe, Int.reduceToNat, ne_eq, implies_true, bA]
  simp [leB, Nat.div_div_eq_div_mul]
theorem laid_3 (n : Nat) (hn : n < 18446744073709551616) : PCall Tryd.prog 35 [.int .u64 n, .int .i64 3] (.str (leB 3 n)) := by
  refine pcall_go Tryd.func35 comp_field_laid ?_
  simp (config := {maxSteps := 4000000}) only [U_field_laid, byte8, shr64' hn, reduceIte, reduceCtorEq, Nat.reduceEqDiff, Nat.reduceAdd, Int.reduceLT, Int.reduceLE, Int.reduceNeg, Int.reduceEq, Nat.reduceLT, Nat.reduceSub, Nat.reduceMul, Nat.reduceBEq, Nat.reduceLeDiff, Int.reduceBEq, Int.reduceBNe, Int.reduceToNat, ne_eq, implies_true, bA]
  simp [leB, Nat.div_div_eq_div_mul]
theorem laid_4 (n : Nat) (hn : n < 18446744073709551616) : PCall Tryd.prog 35 [.int .u64 n, .int .i64 4] (.str (leB 4 n)) := by
  refine pcall_go Tryd.func35 comp_field_laid ?_
  simp (config := {maxSteps := 4000000}) only [U_field_laid, byte8, shr64' hn, reduceIte, reduceCtorEq, Nat.reduceEqDiff, Nat.reduceAdd, Int.reduceLT, Int.reduceLE, Int.reduceNeg, Int.reduceEq, Nat.reduceLT, Nat.reduceSub, Nat.reduceMul, Nat.reduceBEq, Nat.reduceLeDiff, Int.reduceBEq, Int.reduceBNe, Int.reduceToNat, ne_eq, implies_true, bA]
  simp [leB, Nat.div_div_eq_div_mul]
theorem laid_5 (n : Nat) (hn : n < 18446744073709551616) : PCall Tryd.prog 35 [.int .u64 n, .int .i64 5] (.str (leB 5 n)) := by
  refine pcall_go Tryd.func35 comp_field_laid ?_
  simp (config := {maxSteps := 4000000}) only [U_field_laid, byte8, shr64' hn, reduceIte, reduceCtorEq, Nat.reduceEqDiff, Nat.reduceAdd, Int.reduceLT, Int.reduceLE, Int.reduceNeg, Int.reduceEq, Nat.reduceLT, Nat.reduceSub, Nat.reduceMul, Nat.reduceBEq, Nat.reduceLeDiff, Int.reduceBEq, Int.reduceBNe, Int.reduceToNat, ne_eq, implies_true, bA]
  simp [leB, Nat.div_div_eq_div_mul]
theorem laid_6 (n : Nat) (hn : n < 18446744073709551616) : PCall Tryd.prog 35 [.int .u64 n, .int .i64 6] (.str (leB 6 n)) := by
  refine pcall_go Tryd.func35 comp_field_laid ?_
  simp (config := {maxSteps := 4000000}) only [U_field_laid, byte8, shr64' hn, reduceIte, reduceCtorEq, Nat.reduceEqDiff, Nat.reduceAdd, Int.reduceLT, Int.reduceLE, Int.reduceNeg, Int.reduceEq, Nat.reduceLT, Nat.reduceSub, Nat.reduceMul, Nat.reduceBEq, Nat.reduceLeDiff, Int.reduceBEq, Int.reduceBNe, Int.reduceToNat, ne_eq, implies_true, bA]
  simp [leB, Nat.div_div_eq_div_mul]
theorem laid_7 (n : Nat) (hn : n < 18446744073709551616) : PCall Tryd.prog 35 [.int .u64 n, .int .i64 7] (.str (leB 7 n)) := by
  refine pcall_go Tryd.func35 comp_field_laid ?_
  simp (config := {maxSteps := 4000000}) only [U_field_laid, byte8, shr64' hn, reduceIte, reduceCtorEq, Nat.reduceEqDiff, Nat.reduceAdd, Int.reduceLT, Int.reduceLE, Int.reduceNeg, Int.reduceEq, Nat.reduceLT, Nat.reduceSub, Nat.reduceMul, Nat.reduceBEq, Nat.reduceLeDiff, Int.reduceBEq, Int.reduceBNe, Int.reduceToNat, ne_eq, implies_true, bA]
  simp [leB, Nat.div_div_eq_div_mul]
theorem laid_8 (n : Nat) (hn : n < 18446744073709551616) : PCall Tryd.prog 35 [.int .u64 n, .int .i64 8] (.str (leB 8 n)) := by
  refine pcall_go Tryd.func35 comp_field_laid ?_
  simp (config := {maxSteps := 4000000}) only [U_field_laid, byte8, shr64' hn, reduceIte, reduceCtorEq, Nat.reduceEqDiff, Nat.reduceAdd, Int.reduceLT, Int.reduceLE, Int.reduceNeg, Int.reduceEq, Nat.reduceLT, Nat.reduceSub, Nat.reduceMul, Nat.reduceBEq, Nat.reduceLeDiff, Int.reduceBEq, Int.reduceBNe, Int.reduceToNat, ne_eq, implies_true, bA]
  simp [leB, Nat.div_div_eq_div_mul]
theorem laid_spec (n w : Nat) (hn : n < 18446744073709551616) (h1 : 1 ≤ w) (h8 : w ≤ 8) : PCall Tryd.prog 35 [.int .u64 n, .int .i64 w] (.str (leB w n)) := by
  have : w = 1 ∨ w = 2 ∨ w = 3 ∨ w = 4 ∨ w = 5 ∨ w = 6 ∨ w = 7 ∨ w = 8 := by omega
  rcases this with rfl | rfl | rfl | rfl | rfl | rfl | rfl | rfl
  · exact laid_1 n hn
  · exact laid_2 n hn
  · exact laid_3 n hn
  · exact laid_4 n hn
  · exact laid_5 n hn
  · exact laid_6 n hn
  · exact laid_7 n hn
  · exact laid_8 n hn

/-- Is it a width? -/
def wid (w : Int) : Bool := decide (1 ≤ w) && decide (w ≤ 8)
def putS (n : Nat) (w : Int) : List UInt8 × Int := if wid w = false then ([], 1) else if n < 256 ^ w.toNat then (leB w.toNat n, 0) else ([], 2)
def getS (s : List UInt8) (a w : Int) : Nat × Int :=
  if wid w = false ∨ a < 0 then (0, 1) else if (s.length : Int) - a < w then (0, 5) else (leN ((s.drop a.toNat).take w.toNat), 0)
theorem wid_iff {w : Int} : wid w = true ↔ 1 ≤ w ∧ w ≤ 8 := by simp [wid]
theorem wid_false {w : Int} : wid w = false ↔ ¬ (1 ≤ w ∧ w ≤ 8) := by rw [← wid_iff]; simp

end Go.Proofs.YtdgpiobmncohjaaDoor.Aw
