/-
  What the functions of the package 'page' compute, and the document's: reading.
-/
import Derived.Test.YtdgpiobmncohjaaDoorPPage2
set_option linter.unusedSimpArgs false
set_option linter.unusedVariables false
namespace Go.Proofs.YtdgpiobmncohjaaDoor.Aw
open Go.RowKit

theorem take_page (t : List UInt8) (h : 16 ≤ t.length) : takeS (t.drop 2) [1, 2, 4, 6, 1] = ([leN ((t.drop 2).take 1), leN ((t.drop 3).take 2), leN ((t.drop 5).take 4), leN ((t.drop 9).take 6), leN ((t.drop 15).take 1)], t.drop 16, 0) := by
  have b1 : badW [1, 2, 4, 6, 1] = false := by decide
  rw [takeS_ok b1, goOn_one (by simp; omega), goOn_one (by simp; omega), goOn_one (by simp; omega), goOn_one (by simp; omega), goOn_one (by simp; omega), goOn_nil]
  simp [List.drop_drop]
theorem read_err {s : List UInt8} (h : (openS s).2 ≠ 0) : readS s = (zeroP, (openS s).2) := by rw [readS, if_pos h]
theorem read_short {s : List UInt8} (h : (openS s).2 = 0) (h2 : (openS s).1.length < 16) : readS s = (zeroP, 3) := by rw [readS, if_neg (by simpa using h), if_pos h2]
theorem read_no {s : List UInt8} (h : (openS s).2 = 0) (h2 : ¬ (openS s).1.length < 16) (h3 : ¬ (mayB (pageOf (openS s).1) = true ∧ bodyS (pageOf (openS s).1) = (openS s).1)) : readS s = (zeroP, 3) := by
  rw [readS, if_neg (by simpa using h), if_neg h2, if_neg h3]
theorem read_yes {s : List UInt8} (h : (openS s).2 = 0) (h2 : ¬ (openS s).1.length < 16) (h3 : mayB (pageOf (openS s).1) = true) (h4 : bodyS (pageOf (openS s).1) = (openS s).1) : readS s = (pageOf (openS s).1, 0) := by
  rw [readS, if_neg (by simpa using h), if_neg h2, if_pos ⟨h3, h4⟩]
theorem may_len {t : List UInt8} (h : mayB (pageOf t) = true) : t.length - 16 ≤ 100 := by
  have := (mayB_iff.1 h).2.2.2.2.2.2.2.2
  simpa [pageOf] using this
theorem open_len (s : List UInt8) : (openS s).1.length ≤ s.length := by
  unfold openS; split
  · simp
  · split
    · simp
    · simp
theorem read_spec (s : List UInt8) (hs : s.length ≤ 1000000) : PCall Tryd.prog 14 [.str s] (.tup [pP (readS s).1, .int .i64 (readS s).2]) := by
  refine pcall_go Tryd.func14 comp_page_Read ?_
  simp (config := {maxSteps := 4000000}) only [U_page_Read, reduceIte, reduceCtorEq, Nat.reduceEqDiff, Nat.reduceAdd, Int.reduceLT, Int.reduceLE, Int.reduceNeg, Int.reduceEq, Nat.reduceLT, Nat.reduceSub, Nat.reduceMul, Nat.reduceBEq, Nat.reduceLeDiff, Int.reduceBEq, Int.reduceBNe, Int.reduceToNat, ne_eq, implies_true, bA]
  refine callI (open_spec s hs) ?_
  by_cases h0 : (openS s).2 = 0
  · have d0 : ((openS s).2 != 0) = false := by simpa using h0
    have hol := open_len s
    have hyes := read_yes h0
    have hno := read_no h0
    have hshort := read_short h0
    generalize (openS s).1 = t at hol hyes hno hshort
    by_cases h16 : t.length < 16
    · have d1 : decide ((t.length : Int) < 16) = true := by simp; omega
      rw [hshort h16]
      simp (config := {maxSteps := 4000000}) only [U_page_Read, d0, d1, reduceIte, reduceCtorEq, Nat.reduceEqDiff, Nat.reduceAdd, Int.reduceLT, Int.reduceLE, Int.reduceNeg, Int.reduceEq, Nat.reduceLT, Nat.reduceSub, Nat.reduceMul, Nat.reduceBEq, Nat.reduceLeDiff, Int.reduceBEq, Int.reduceBNe, Int.reduceToNat, ne_eq, implies_true, bA]
      rfl
    · have d1 : decide ((t.length : Int) < 16) = false := by simp; omega
      have g1 : sstrV (.str t) (some none) (some (some 2)) = some (.str (t.take 2)) := sstrV_to (h := 2) (by omega)
      have g2 : sstrV (.str t) (some (some 2)) (some none) = some (.str (t.drop 2)) := sstrV_from (i := 2) (by omega)
      by_cases h2 : t.take 2 = [83, 99]
      · have d2 : (t.take 2 == [83, 99]) = true := by simpa using h2
        simp (config := {maxSteps := 4000000}) only [U_page_Read, d0, d1, g1, d2, g2, reduceIte, reduceCtorEq, Nat.reduceEqDiff, Nat.reduceAdd, Int.reduceLT, Int.reduceLE, Int.reduceNeg, Int.reduceEq, Nat.reduceLT, Nat.reduceSub, Nat.reduceMul, Nat.reduceBEq, Nat.reduceLeDiff, Int.reduceBEq, Int.reduceBNe, Int.reduceToNat, ne_eq, implies_true, bA]
        refine callI widths_spec ?_
        simp (config := {maxSteps := 4000000}) only [U_page_Read, reduceIte, reduceCtorEq, Nat.reduceEqDiff, Nat.reduceAdd, Int.reduceLT, Int.reduceLE, Int.reduceNeg, Int.reduceEq, Nat.reduceLT, Nat.reduceSub, Nat.reduceMul, Nat.reduceBEq, Nat.reduceLeDiff, Int.reduceBEq, Int.reduceBNe, Int.reduceToNat, ne_eq, implies_true, bA]
        refine callI (take_spec (t.drop 2) [1, 2, 4, 6, 1] (by simp; omega) (by simp)) ?_
        rw [take_page t (by omega)]
        have l1 := leN_lt ((t.drop 2).take 1)
        have l2 := leN_lt ((t.drop 3).take 2)
        have l3 := leN_lt ((t.drop 5).take 4)
        have l4 := leN_lt ((t.drop 9).take 6)
        rw [show ((t.drop 2).take 1).length = 1 by simp; omega] at l1
        rw [show ((t.drop 3).take 2).length = 2 by simp; omega] at l2
        rw [show ((t.drop 5).take 4).length = 4 by simp; omega] at l3
        rw [show ((t.drop 9).take 6).length = 6 by simp; omega] at l4
        have hsame := body_same t (by omega)
        have hpo : pageOf t = ⟨(leN ((t.drop 2).take 1) : Int), (leN ((t.drop 3).take 2) : Int), (leN ((t.drop 5).take 4) : Int), (leN ((t.drop 9).take 6) : Int), t.drop 16⟩ := rfl
        have hml := may_len (t := t)
        have hBl : (t.drop 16).length = t.length - 16 := by simp
        generalize leN ((t.drop 2).take 1) = n1 at *
        generalize leN ((t.drop 3).take 2) = n2 at *
        generalize leN ((t.drop 5).take 4) = n3 at *
        generalize leN ((t.drop 9).take 6) = n4 at *
        generalize leN ((t.drop 15).take 1) = n5 at *
        generalize t.drop 16 = B at *
        have i0 : ∀ ob fb, islV ob fb 1 (.slc (rowsN .u64 [n1, n2, n3, n4, n5])) (.int .i64 0) = some (.fptr [.int .u64 (n1 : Int)]) := fun _ _ => rfl
        have i1 : ∀ ob fb, islV ob fb 1 (.slc (rowsN .u64 [n1, n2, n3, n4, n5])) (.int .i64 1) = some (.fptr [.int .u64 (n2 : Int)]) := fun _ _ => rfl
        have i2 : ∀ ob fb, islV ob fb 1 (.slc (rowsN .u64 [n1, n2, n3, n4, n5])) (.int .i64 2) = some (.fptr [.int .u64 (n3 : Int)]) := fun _ _ => rfl
        have i3 : ∀ ob fb, islV ob fb 1 (.slc (rowsN .u64 [n1, n2, n3, n4, n5])) (.int .i64 3) = some (.fptr [.int .u64 (n4 : Int)]) := fun _ _ => rfl
        have i4 : ∀ ob fb, islV ob fb 1 (.slc (rowsN .u64 [n1, n2, n3, n4, n5])) (.int .i64 4) = some (.fptr [.int .u64 (n5 : Int)]) := fun _ _ => rfl
        have eB : IntKind.u64.wrap (B.length : Int) = (B.length : Int) := wrapU (by omega) (by omega)
        have c1 : IntKind.i64.wrap (n1 : Int) = (n1 : Int) := wrapI (by omega) (by omega)
        have c2 : IntKind.i64.wrap (n2 : Int) = (n2 : Int) := wrapI (by omega) (by omega)
        have c3 : IntKind.i64.wrap (n3 : Int) = (n3 : Int) := wrapI (by omega) (by omega)
        have c4 : IntKind.i64.wrap (n4 : Int) = (n4 : Int) := wrapI (by omega) (by omega)
        by_cases h5 : B.length = n5
        · have d3 : ((B.length : Int) != (n5 : Int)) = false := by simp only [bne_eq_false_iff_eq]; omega
          simp (config := {maxSteps := 4000000}) only [U_page_Read, i0, i1, i2, i3, i4, eB, d3, c1, c2, c3, c4, reduceIte, reduceCtorEq, Nat.reduceEqDiff, Nat.reduceAdd, Int.reduceLT, Int.reduceLE, Int.reduceNeg, Int.reduceEq, Nat.reduceLT, Nat.reduceSub, Nat.reduceMul, Nat.reduceBEq, Nat.reduceLeDiff, Int.reduceBEq, Int.reduceBNe, Int.reduceToNat, ne_eq, implies_true, bA]
          refine callI (may_spec ⟨(n1 : Int), (n2 : Int), (n3 : Int), (n4 : Int), B⟩) ?_
          cases hm : mayB ⟨(n1 : Int), (n2 : Int), (n3 : Int), (n4 : Int), B⟩ with
          | true =>
            rw [← hpo] at hm
            rw [hyes h16 hm ((hsame (hml hm)).2 ⟨h2, by omega⟩)]
            simp (config := {maxSteps := 4000000}) only [U_page_Read, reduceIte, reduceCtorEq, Nat.reduceEqDiff, Nat.reduceAdd, Int.reduceLT, Int.reduceLE, Int.reduceNeg, Int.reduceEq, Nat.reduceLT, Nat.reduceSub, Nat.reduceMul, Nat.reduceBEq, Nat.reduceLeDiff, Int.reduceBEq, Int.reduceBNe, Int.reduceToNat, ne_eq, implies_true, bA]
            rw [hpo]; rfl
          | false =>
            rw [← hpo] at hm
            rw [hno h16 (fun h => by rw [hm] at h; exact absurd h.1 (by simp))]
            simp (config := {maxSteps := 4000000}) only [U_page_Read, reduceIte, reduceCtorEq, Nat.reduceEqDiff, Nat.reduceAdd, Int.reduceLT, Int.reduceLE, Int.reduceNeg, Int.reduceEq, Nat.reduceLT, Nat.reduceSub, Nat.reduceMul, Nat.reduceBEq, Nat.reduceLeDiff, Int.reduceBEq, Int.reduceBNe, Int.reduceToNat, ne_eq, implies_true, bA]
            rfl
        · have d3 : ((B.length : Int) != (n5 : Int)) = true := by simp only [bne_iff_ne, ne_eq]; omega
          rw [hno h16 (fun h => h5 (by have := ((hsame (hml h.1)).1 h.2).2; omega))]
          simp (config := {maxSteps := 4000000}) only [U_page_Read, i4, eB, d3, reduceIte, reduceCtorEq, Nat.reduceEqDiff, Nat.reduceAdd, Int.reduceLT, Int.reduceLE, Int.reduceNeg, Int.reduceEq, Nat.reduceLT, Nat.reduceSub, Nat.reduceMul, Nat.reduceBEq, Nat.reduceLeDiff, Int.reduceBEq, Int.reduceBNe, Int.reduceToNat, ne_eq, implies_true, bA]
          rfl
      · have d2 : (t.take 2 == [83, 99]) = false := by simpa using h2
        rw [hno h16 (fun h => h2 ((body_same t (by omega) (may_len h.1)).1 h.2).1)]
        simp (config := {maxSteps := 4000000}) only [U_page_Read, d0, d1, g1, d2, reduceIte, reduceCtorEq, Nat.reduceEqDiff, Nat.reduceAdd, Int.reduceLT, Int.reduceLE, Int.reduceNeg, Int.reduceEq, Nat.reduceLT, Nat.reduceSub, Nat.reduceMul, Nat.reduceBEq, Nat.reduceLeDiff, Int.reduceBEq, Int.reduceBNe, Int.reduceToNat, ne_eq, implies_true, bA]
        rfl
  · have d0 : ((openS s).2 != 0) = true := by simpa using h0
    rw [read_err h0]
    simp (config := {maxSteps := 4000000}) only [U_page_Read, d0, reduceIte, reduceCtorEq, Nat.reduceEqDiff, Nat.reduceAdd, Int.reduceLT, Int.reduceLE, Int.reduceNeg, Int.reduceEq, Nat.reduceLT, Nat.reduceSub, Nat.reduceMul, Nat.reduceBEq, Nat.reduceLeDiff, Int.reduceBEq, Int.reduceBNe, Int.reduceToNat, ne_eq, implies_true, bA]
    rfl
end Go.Proofs.YtdgpiobmncohjaaDoor.Aw
