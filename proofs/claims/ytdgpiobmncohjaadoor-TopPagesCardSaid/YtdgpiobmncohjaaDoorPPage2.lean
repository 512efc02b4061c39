/-
  What the functions of the package 'page' compute, and the document's: writing and reading.
-/
import Derived.Test.YtdgpiobmncohjaaDoorPPage
set_option linter.unusedSimpArgs false
set_option linter.unusedVariables false
namespace Go.Proofs.YtdgpiobmncohjaaDoor.Aw
open Go.RowKit

theorem widths_spec : PCall Tryd.prog 19 [] (.slc (rowsZ .i64 [1, 2, 4, 6, 1])) := by
  refine pcall_go Tryd.func19 comp_page_widths ?_
  simp (config := {maxSteps := 4000000}) only [U_page_widths, reduceIte, reduceCtorEq, Nat.reduceEqDiff, Nat.reduceAdd, Int.reduceLT, Int.reduceLE, Int.reduceNeg, Int.reduceEq, Nat.reduceLT, Nat.reduceSub, Nat.reduceMul, Nat.reduceBEq, Nat.reduceLeDiff, Int.reduceBEq, Int.reduceBNe, Int.reduceToNat, ne_eq, implies_true, bA]
  rfl
theorem wrapU_nat {n : Int} (h0 : 0 ≤ n) (h : n < 18446744073709551616) : IntKind.u64.wrap n = ((n.toNat : Nat) : Int) := by rw [wrap64]; omega
theorem write_spec (p : Pg) (hb : p.bo.length ≤ 9223372036854775807) : PCall Tryd.prog 5 [pP p] (.tup [.str (writeS p).1, .int .i64 (writeS p).2]) := by
  refine pcall_go Tryd.func5 comp_page_Write ?_
  simp (config := {maxSteps := 4000000}) only [U_page_Write, rowP, reduceIte, reduceCtorEq, Nat.reduceEqDiff, Nat.reduceAdd, Int.reduceLT, Int.reduceLE, Int.reduceNeg, Int.reduceEq, Nat.reduceLT, Nat.reduceSub, Nat.reduceMul, Nat.reduceBEq, Nat.reduceLeDiff, Int.reduceBEq, Int.reduceBNe, Int.reduceToNat, ne_eq, implies_true, bA]
  refine callI (may_spec p) ?_
  cases h : mayB p with
  | false =>
    simp (config := {maxSteps := 4000000}) only [U_page_Write, reduceIte, reduceCtorEq, Nat.reduceEqDiff, Nat.reduceAdd, Int.reduceLT, Int.reduceLE, Int.reduceNeg, Int.reduceEq, Nat.reduceLT, Nat.reduceSub, Nat.reduceMul, Nat.reduceBEq, Nat.reduceLeDiff, Int.reduceBEq, Int.reduceBNe, Int.reduceToNat, ne_eq, implies_true, bA]
    simp [writeS, h]
  | true =>
    obtain ⟨a, b, c, d, e, f, g, hh, i⟩ := mayB_iff.1 h
    have e1 : IntKind.u64.wrap p.kd = ((p.kd.toNat : Nat) : Int) := wrapU_nat (by omega) (by omega)
    have e2 : IntKind.u64.wrap p.sp = ((p.sp.toNat : Nat) : Int) := wrapU_nat (by omega) (by omega)
    have e3 : IntKind.u64.wrap p.ky = ((p.ky.toNat : Nat) : Int) := wrapU_nat (by omega) (by omega)
    have e4 : IntKind.u64.wrap p.sq = ((p.sq.toNat : Nat) : Int) := wrapU_nat (by omega) (by omega)
    have e5 : IntKind.u64.wrap (p.bo.length : Int) = ((p.bo.length : Nat) : Int) := wrapU (by omega) (by omega)
    simp (config := {maxSteps := 4000000}) only [U_page_Write, rowP, e1, e2, e3, e4, e5, reduceIte, reduceCtorEq, Nat.reduceEqDiff, Nat.reduceAdd, Int.reduceLT, Int.reduceLE, Int.reduceNeg, Int.reduceEq, Nat.reduceLT, Nat.reduceSub, Nat.reduceMul, Nat.reduceBEq, Nat.reduceLeDiff, Int.reduceBEq, Int.reduceBNe, Int.reduceToNat, ne_eq, implies_true, bA]
    refine callI widths_spec ?_
    simp (config := {maxSteps := 4000000}) only [U_page_Write, rowP, reduceIte, reduceCtorEq, Nat.reduceEqDiff, Nat.reduceAdd, Int.reduceLT, Int.reduceLE, Int.reduceNeg, Int.reduceEq, Nat.reduceLT, Nat.reduceSub, Nat.reduceMul, Nat.reduceBEq, Nat.reduceLeDiff, Int.reduceBEq, Int.reduceBNe, Int.reduceToNat, ne_eq, implies_true, bA]
    refine callI (row_spec [p.kd.toNat, p.sp.toNat, p.ky.toNat, p.sq.toNat, p.bo.length] [1, 2, 4, 6, 1] (by simp) (by simp) (by
      intro n hn
      simp only [List.mem_cons, List.not_mem_nil, or_false] at hn
      rcases hn with rfl | rfl | rfl | rfl | rfl <;> omega)) ?_
    rw [row_page p h]
    have hl := headS_len p
    have f1 : binS .add [83, 99] (headS p) = some (.str ([83, 99] ++ headS p)) := by rw [binS, if_pos (by simp; omega)]
    have f2 : binS .add ([83, 99] ++ headS p) p.bo = some (.str ([83, 99] ++ headS p ++ p.bo)) := by rw [binS, if_pos (by simp; omega)]
    simp only [List.append_assoc, List.cons_append, List.nil_append] at f1 f2
    simp (config := {maxSteps := 4000000}) only [U_page_Write, rowP, f1, f2, reduceIte, reduceCtorEq, Nat.reduceEqDiff, Nat.reduceAdd, Int.reduceLT, Int.reduceLE, Int.reduceNeg, Int.reduceEq, Nat.reduceLT, Nat.reduceSub, Nat.reduceMul, Nat.reduceBEq, Nat.reduceLeDiff, Int.reduceBEq, Int.reduceBNe, Int.reduceToNat, ne_eq, implies_true, bA]
    have hwr : writeS p = (sealS (bodyS p), 0) := by rw [writeS, if_pos h]
    have hb2 : 83 :: 99 :: (headS p ++ p.bo) = bodyS p := by simp [bodyS]
    rw [hb2, hwr]
    refine callI (seal_spec (bodyS p) (by rw [bodyS_len]; omega)) ?_
    simp (config := {maxSteps := 4000000}) only [U_page_Write, reduceIte, reduceCtorEq, Nat.reduceEqDiff, Nat.reduceAdd, Int.reduceLT, Int.reduceLE, Int.reduceNeg, Int.reduceEq, Nat.reduceLT, Nat.reduceSub, Nat.reduceMul, Nat.reduceBEq, Nat.reduceLeDiff, Int.reduceBEq, Int.reduceBNe, Int.reduceToNat, ne_eq, implies_true, bA]
end Go.Proofs.YtdgpiobmncohjaaDoor.Aw
