/-
  Statements of layer 9, as contracts: each returns true.
-/
import Derived.Test.YtlkpceacmfndlaaPLeaf3
set_option linter.unusedSimpArgs false
set_option linter.unusedVariables false
namespace Go.Proofs.Ytlkpceacmfndlaa.Aw
open Go.RowKit

theorem wrE_yes {l : List Xt} (h : leafB l = true) : writeG entE leafB l = (recG entE l, 0) := by rw [writeG, if_pos h]
theorem wrE_no {l : List Xt} (h : leafB l = false) : writeG entE leafB l = ([], 1) := by rw [writeG, if_neg (by rw [h]; simp)]
theorem wrK_yes {l : List Kd} (h : kidsB l = true) : writeG entK kidsB l = (recG entK l, 0) := by rw [writeG, if_pos h]
theorem wrK_no {l : List Kd} (h : kidsB l = false) : writeG entK kidsB l = ([], 1) := by rw [writeG, if_neg (by rw [h]; simp)]
theorem backE {l : List Xt} (h : leafB l = true) : readG entE exAt 10 leafB (recG entE l) = (l, 0) :=
  read_writeG (by decide) entE_len (leafB_iff.1 h).2.1 (fun e he X Y => dec_ext e (leaf_fit h e he) X Y) h
theorem backK {l : List Kd} (h : kidsB l = true) : readG entK kdAt 5 kidsB (recG entK l) = (l, 0) :=
  read_writeG (by decide) entK_len (kidsB_iff.1 h).2.1 (fun e he X Y => dec_kid e (kids_fit' h e he) X Y) h
theorem wrE_len (l : List Xt) : (writeG entE leafB l).1.length ≤ 81 := by
  unfold writeG; split
  · rename_i h; have := (leafB_iff.1 h).2.1; rw [recG_len entE_len]; omega
  · simp
theorem wrK_len (l : List Kd) : (writeG entK kidsB l).1.length ≤ 81 := by
  unfold writeG; split
  · rename_i h; have := (kidsB_iff.1 h).2.1; rw [recG_len entK_len]; omega
  · simp
theorem awake09_spec : PCall Try.prog 9 [] (.bool true) := by
  refine pcall_go Try.func9 comp_law09_awake ?_
  have hw : writeG entE leafB [⟨3, 2, 2, 7⟩] = ([1, 3, 0, 0, 2, 0, 0, 0, 2, 7, 0], 0) := by decide
  have hr : readG entK kdAt 5 kidsB [2, 0, 0, 0, 5, 0, 9, 0, 0, 6, 0] = ([⟨0, 5⟩, ⟨9, 6⟩], 0) := by decide
  have hi : ∀ ob fb, islV ob fb 2 (.slc [[.int .i64 0, .int .i64 5], [.int .i64 9, .int .i64 6]]) (.int .i64 1) = some (.fptr [.int .i64 9, .int .i64 6]) := fun _ _ => rfl
  simp (config := {maxSteps := 4000000}) only [U_law09_awake, reduceIte, reduceCtorEq, Nat.reduceEqDiff, Nat.reduceAdd, Int.reduceLT, Int.reduceLE, Int.reduceNeg, Int.reduceEq, Nat.reduceLT, Nat.reduceSub, Nat.reduceMul, Nat.reduceBEq, Nat.reduceLeDiff, Int.reduceBEq, Int.reduceBNe, Int.reduceToNat, ne_eq, implies_true, bA]
  refine callI (Leaf_spec [⟨3, 2, 2, 7⟩] (by decide)) ?_
  rw [hw]
  simp (config := {maxSteps := 4000000}) only [U_law09_awake, reduceIte, reduceCtorEq, Nat.reduceEqDiff, Nat.reduceAdd, Int.reduceLT, Int.reduceLE, Int.reduceNeg, Int.reduceEq, Nat.reduceLT, Nat.reduceSub, Nat.reduceMul, Nat.reduceBEq, Nat.reduceLeDiff, Int.reduceBEq, Int.reduceBNe, Int.reduceToNat, ne_eq, implies_true, bA]
  refine callI (ReadInner_spec [2, 0, 0, 0, 5, 0, 9, 0, 0, 6, 0] (by decide)) ?_
  rw [hr]
  simp (config := {maxSteps := 4000000}) only [U_law09_awake, rowK, hi, beq_self_eq_true, reduceIte, reduceCtorEq, Nat.reduceEqDiff, Nat.reduceAdd, Int.reduceLT, Int.reduceLE, Int.reduceNeg, Int.reduceEq, Nat.reduceLT, Nat.reduceSub, Nat.reduceMul, Nat.reduceBEq, Nat.reduceLeDiff, Int.reduceBEq, Int.reduceBNe, Int.reduceToNat, ne_eq, implies_true, bA]
theorem writes_law (l : List Xt) (hm : l.length ≤ 9223372036854775807) : PCall Try.prog 3 [.slc (l.map rowE)] (.bool true) := by
  refine pcall_go Try.func3 comp_law09_LeafWrites ?_
  by_cases h : 60 < l.length
  · have d : decide ((60 : Int) < (l.length : Int)) = true := by simp; omega
    simp (config := {maxSteps := 4000000}) only [U_law09_LeafWrites, d, reduceIte, reduceCtorEq, Nat.reduceEqDiff, Nat.reduceAdd, Int.reduceLT, Int.reduceLE, Int.reduceNeg, Int.reduceEq, Nat.reduceLT, Nat.reduceSub, Nat.reduceMul, Nat.reduceBEq, Nat.reduceLeDiff, Int.reduceBEq, Int.reduceBNe, Int.reduceToNat, ne_eq, implies_true, bA]
    refine callI awake09_spec ?_
    simp (config := {maxSteps := 4000000}) only [U_law09_LeafWrites, reduceIte, reduceCtorEq, Nat.reduceEqDiff, Nat.reduceAdd, Int.reduceLT, Int.reduceLE, Int.reduceNeg, Int.reduceEq, Nat.reduceLT, Nat.reduceSub, Nat.reduceMul, Nat.reduceBEq, Nat.reduceLeDiff, Int.reduceBEq, Int.reduceBNe, Int.reduceToNat, ne_eq, implies_true, bA]
  · have d : decide ((60 : Int) < (l.length : Int)) = false := by simp; omega
    simp (config := {maxSteps := 4000000}) only [U_law09_LeafWrites, d, reduceIte, reduceCtorEq, Nat.reduceEqDiff, Nat.reduceAdd, Int.reduceLT, Int.reduceLE, Int.reduceNeg, Int.reduceEq, Nat.reduceLT, Nat.reduceSub, Nat.reduceMul, Nat.reduceBEq, Nat.reduceLeDiff, Int.reduceBEq, Int.reduceBNe, Int.reduceToNat, ne_eq, implies_true, bA]
    refine callI (Leaf_spec l hm) ?_
    simp (config := {maxSteps := 4000000}) only [U_law09_LeafWrites, reduceIte, reduceCtorEq, Nat.reduceEqDiff, Nat.reduceAdd, Int.reduceLT, Int.reduceLE, Int.reduceNeg, Int.reduceEq, Nat.reduceLT, Nat.reduceSub, Nat.reduceMul, Nat.reduceBEq, Nat.reduceLeDiff, Int.reduceBEq, Int.reduceBNe, Int.reduceToNat, ne_eq, implies_true, bA]
    refine callI (refsExt_spec l (by omega)) ?_
    simp (config := {maxSteps := 4000000}) only [U_law09_LeafWrites, reduceIte, reduceCtorEq, Nat.reduceEqDiff, Nat.reduceAdd, Int.reduceLT, Int.reduceLE, Int.reduceNeg, Int.reduceEq, Nat.reduceLT, Nat.reduceSub, Nat.reduceMul, Nat.reduceBEq, Nat.reduceLeDiff, Int.reduceBEq, Int.reduceBNe, Int.reduceToNat, ne_eq, implies_true, bA]
    refine callI (rLeaf_spec l hm) ?_
    simp (config := {maxSteps := 4000000}) only [U_law09_LeafWrites, reduceIte, reduceCtorEq, Nat.reduceEqDiff, Nat.reduceAdd, Int.reduceLT, Int.reduceLE, Int.reduceNeg, Int.reduceEq, Nat.reduceLT, Nat.reduceSub, Nat.reduceMul, Nat.reduceBEq, Nat.reduceLeDiff, Int.reduceBEq, Int.reduceBNe, Int.reduceToNat, ne_eq, implies_true, bA]
    refine callI awake09_spec ?_
    have hl := wrE_len l
    have d2 : decide (((writeG entE leafB l).1.length : Int) ≤ 100) = true := by simp; omega
    simp (config := {maxSteps := 4000000}) only [U_law09_LeafWrites, d2, beq_self_eq_true, reduceIte, reduceCtorEq, Nat.reduceEqDiff, Nat.reduceAdd, Int.reduceLT, Int.reduceLE, Int.reduceNeg, Int.reduceEq, Nat.reduceLT, Nat.reduceSub, Nat.reduceMul, Nat.reduceBEq, Nat.reduceLeDiff, Int.reduceBEq, Int.reduceBNe, Int.reduceToNat, ne_eq, implies_true, bA]
theorem inner_law (l : List Kd) (hm : l.length ≤ 9223372036854775807) : PCall Try.prog 5 [.slc (l.map rowK)] (.bool true) := by
  refine pcall_go Try.func5 comp_law09_LeafInner ?_
  by_cases h : 60 < l.length
  · have d : decide ((60 : Int) < (l.length : Int)) = true := by simp; omega
    simp (config := {maxSteps := 4000000}) only [U_law09_LeafInner, d, reduceIte, reduceCtorEq, Nat.reduceEqDiff, Nat.reduceAdd, Int.reduceLT, Int.reduceLE, Int.reduceNeg, Int.reduceEq, Nat.reduceLT, Nat.reduceSub, Nat.reduceMul, Nat.reduceBEq, Nat.reduceLeDiff, Int.reduceBEq, Int.reduceBNe, Int.reduceToNat, ne_eq, implies_true, bA]
    refine callI awake09_spec ?_
    simp (config := {maxSteps := 4000000}) only [U_law09_LeafInner, reduceIte, reduceCtorEq, Nat.reduceEqDiff, Nat.reduceAdd, Int.reduceLT, Int.reduceLE, Int.reduceNeg, Int.reduceEq, Nat.reduceLT, Nat.reduceSub, Nat.reduceMul, Nat.reduceBEq, Nat.reduceLeDiff, Int.reduceBEq, Int.reduceBNe, Int.reduceToNat, ne_eq, implies_true, bA]
  · have d : decide ((60 : Int) < (l.length : Int)) = false := by simp; omega
    simp (config := {maxSteps := 4000000}) only [U_law09_LeafInner, d, reduceIte, reduceCtorEq, Nat.reduceEqDiff, Nat.reduceAdd, Int.reduceLT, Int.reduceLE, Int.reduceNeg, Int.reduceEq, Nat.reduceLT, Nat.reduceSub, Nat.reduceMul, Nat.reduceBEq, Nat.reduceLeDiff, Int.reduceBEq, Int.reduceBNe, Int.reduceToNat, ne_eq, implies_true, bA]
    refine callI (Inner_spec l hm) ?_
    simp (config := {maxSteps := 4000000}) only [U_law09_LeafInner, reduceIte, reduceCtorEq, Nat.reduceEqDiff, Nat.reduceAdd, Int.reduceLT, Int.reduceLE, Int.reduceNeg, Int.reduceEq, Nat.reduceLT, Nat.reduceSub, Nat.reduceMul, Nat.reduceBEq, Nat.reduceLeDiff, Int.reduceBEq, Int.reduceBNe, Int.reduceToNat, ne_eq, implies_true, bA]
    refine callI (refsKid_spec l (by omega)) ?_
    simp (config := {maxSteps := 4000000}) only [U_law09_LeafInner, reduceIte, reduceCtorEq, Nat.reduceEqDiff, Nat.reduceAdd, Int.reduceLT, Int.reduceLE, Int.reduceNeg, Int.reduceEq, Nat.reduceLT, Nat.reduceSub, Nat.reduceMul, Nat.reduceBEq, Nat.reduceLeDiff, Int.reduceBEq, Int.reduceBNe, Int.reduceToNat, ne_eq, implies_true, bA]
    refine callI (rInner_spec l hm) ?_
    simp (config := {maxSteps := 4000000}) only [U_law09_LeafInner, reduceIte, reduceCtorEq, Nat.reduceEqDiff, Nat.reduceAdd, Int.reduceLT, Int.reduceLE, Int.reduceNeg, Int.reduceEq, Nat.reduceLT, Nat.reduceSub, Nat.reduceMul, Nat.reduceBEq, Nat.reduceLeDiff, Int.reduceBEq, Int.reduceBNe, Int.reduceToNat, ne_eq, implies_true, bA]
    refine callI awake09_spec ?_
    have hl := wrK_len l
    have d2 : decide (((writeG entK kidsB l).1.length : Int) ≤ 100) = true := by simp; omega
    simp (config := {maxSteps := 4000000}) only [U_law09_LeafInner, d2, beq_self_eq_true, reduceIte, reduceCtorEq, Nat.reduceEqDiff, Nat.reduceAdd, Int.reduceLT, Int.reduceLE, Int.reduceNeg, Int.reduceEq, Nat.reduceLT, Nat.reduceSub, Nat.reduceMul, Nat.reduceBEq, Nat.reduceLeDiff, Int.reduceBEq, Int.reduceBNe, Int.reduceToNat, ne_eq, implies_true, bA]
theorem reads_law (s : List UInt8) (hm : s.length ≤ 9223372036854775807) : PCall Try.prog 4 [.str s] (.bool true) := by
  refine pcall_go Try.func4 comp_law09_LeafReads ?_
  by_cases h : 2000 < s.length
  · have d : decide ((2000 : Int) < (s.length : Int)) = true := by simp; omega
    simp (config := {maxSteps := 4000000}) only [U_law09_LeafReads, d, reduceIte, reduceCtorEq, Nat.reduceEqDiff, Nat.reduceAdd, Int.reduceLT, Int.reduceLE, Int.reduceNeg, Int.reduceEq, Nat.reduceLT, Nat.reduceSub, Nat.reduceMul, Nat.reduceBEq, Nat.reduceLeDiff, Int.reduceBEq, Int.reduceBNe, Int.reduceToNat, ne_eq, implies_true, bA]
    refine callI awake09_spec ?_
    simp (config := {maxSteps := 4000000}) only [U_law09_LeafReads, reduceIte, reduceCtorEq, Nat.reduceEqDiff, Nat.reduceAdd, Int.reduceLT, Int.reduceLE, Int.reduceNeg, Int.reduceEq, Nat.reduceLT, Nat.reduceSub, Nat.reduceMul, Nat.reduceBEq, Nat.reduceLeDiff, Int.reduceBEq, Int.reduceBNe, Int.reduceToNat, ne_eq, implies_true, bA]
  · have d : decide ((2000 : Int) < (s.length : Int)) = false := by simp; omega
    have l1 := readG_len (ent := entE) (p := exAt) (k := 10) (may := leafB) s
    have l2 := readG_len (ent := entK) (p := kdAt) (k := 5) (may := kidsB) s
    simp (config := {maxSteps := 4000000}) only [U_law09_LeafReads, d, reduceIte, reduceCtorEq, Nat.reduceEqDiff, Nat.reduceAdd, Int.reduceLT, Int.reduceLE, Int.reduceNeg, Int.reduceEq, Nat.reduceLT, Nat.reduceSub, Nat.reduceMul, Nat.reduceBEq, Nat.reduceLeDiff, Int.reduceBEq, Int.reduceBNe, Int.reduceToNat, ne_eq, implies_true, bA]
    refine callI (ReadLeaf_spec s (by omega)) ?_
    simp (config := {maxSteps := 4000000}) only [U_law09_LeafReads, reduceIte, reduceCtorEq, Nat.reduceEqDiff, Nat.reduceAdd, Int.reduceLT, Int.reduceLE, Int.reduceNeg, Int.reduceEq, Nat.reduceLT, Nat.reduceSub, Nat.reduceMul, Nat.reduceBEq, Nat.reduceLeDiff, Int.reduceBEq, Int.reduceBNe, Int.reduceToNat, ne_eq, implies_true, bA]
    refine callI (rReadLeaf_spec s (by omega)) ?_
    simp (config := {maxSteps := 4000000}) only [U_law09_LeafReads, reduceIte, reduceCtorEq, Nat.reduceEqDiff, Nat.reduceAdd, Int.reduceLT, Int.reduceLE, Int.reduceNeg, Int.reduceEq, Nat.reduceLT, Nat.reduceSub, Nat.reduceMul, Nat.reduceBEq, Nat.reduceLeDiff, Int.reduceBEq, Int.reduceBNe, Int.reduceToNat, ne_eq, implies_true, bA]
    refine callI (ReadInner_spec s (by omega)) ?_
    simp (config := {maxSteps := 4000000}) only [U_law09_LeafReads, reduceIte, reduceCtorEq, Nat.reduceEqDiff, Nat.reduceAdd, Int.reduceLT, Int.reduceLE, Int.reduceNeg, Int.reduceEq, Nat.reduceLT, Nat.reduceSub, Nat.reduceMul, Nat.reduceBEq, Nat.reduceLeDiff, Int.reduceBEq, Int.reduceBNe, Int.reduceToNat, ne_eq, implies_true, bA]
    refine callI (rReadInner_spec s (by omega)) ?_
    simp (config := {maxSteps := 4000000}) only [U_law09_LeafReads, reduceIte, reduceCtorEq, Nat.reduceEqDiff, Nat.reduceAdd, Int.reduceLT, Int.reduceLE, Int.reduceNeg, Int.reduceEq, Nat.reduceLT, Nat.reduceSub, Nat.reduceMul, Nat.reduceBEq, Nat.reduceLeDiff, Int.reduceBEq, Int.reduceBNe, Int.reduceToNat, ne_eq, implies_true, bA]
    refine callI awake09_spec ?_
    simp (config := {maxSteps := 4000000}) only [U_law09_LeafReads, reduceIte, reduceCtorEq, Nat.reduceEqDiff, Nat.reduceAdd, Int.reduceLT, Int.reduceLE, Int.reduceNeg, Int.reduceEq, Nat.reduceLT, Nat.reduceSub, Nat.reduceMul, Nat.reduceBEq, Nat.reduceLeDiff, Int.reduceBEq, Int.reduceBNe, Int.reduceToNat, ne_eq, implies_true, bA]
    refine callI (refsExt_spec (readG entE exAt 10 leafB s).1 (by omega)) ?_
    simp (config := {maxSteps := 4000000}) only [U_law09_LeafReads, reduceIte, reduceCtorEq, Nat.reduceEqDiff, Nat.reduceAdd, Int.reduceLT, Int.reduceLE, Int.reduceNeg, Int.reduceEq, Nat.reduceLT, Nat.reduceSub, Nat.reduceMul, Nat.reduceBEq, Nat.reduceLeDiff, Int.reduceBEq, Int.reduceBNe, Int.reduceToNat, ne_eq, implies_true, bA]
    refine callI (sameExt_spec (readG entE exAt 10 leafB s).1 (readG entE exAt 10 leafB s).1 (by omega) (by omega)) ?_
    simp (config := {maxSteps := 4000000}) only [U_law09_LeafReads, decide_true, beq_self_eq_true, reduceIte, reduceCtorEq, Nat.reduceEqDiff, Nat.reduceAdd, Int.reduceLT, Int.reduceLE, Int.reduceNeg, Int.reduceEq, Nat.reduceLT, Nat.reduceSub, Nat.reduceMul, Nat.reduceBEq, Nat.reduceLeDiff, Int.reduceBEq, Int.reduceBNe, Int.reduceToNat, ne_eq, implies_true, bA]
    refine callI (refsKid_spec (readG entK kdAt 5 kidsB s).1 (by omega)) ?_
    simp (config := {maxSteps := 4000000}) only [U_law09_LeafReads, reduceIte, reduceCtorEq, Nat.reduceEqDiff, Nat.reduceAdd, Int.reduceLT, Int.reduceLE, Int.reduceNeg, Int.reduceEq, Nat.reduceLT, Nat.reduceSub, Nat.reduceMul, Nat.reduceBEq, Nat.reduceLeDiff, Int.reduceBEq, Int.reduceBNe, Int.reduceToNat, ne_eq, implies_true, bA]
    refine callI (sameKid_spec (readG entK kdAt 5 kidsB s).1 (readG entK kdAt 5 kidsB s).1 (by omega) (by omega)) ?_
    simp (config := {maxSteps := 4000000}) only [U_law09_LeafReads, decide_true, beq_self_eq_true, reduceIte, reduceCtorEq, Nat.reduceEqDiff, Nat.reduceAdd, Int.reduceLT, Int.reduceLE, Int.reduceNeg, Int.reduceEq, Nat.reduceLT, Nat.reduceSub, Nat.reduceMul, Nat.reduceBEq, Nat.reduceLeDiff, Int.reduceBEq, Int.reduceBNe, Int.reduceToNat, ne_eq, implies_true, bA]
theorem back_law (l : List Xt) (k : List Kd) (s : List UInt8) (hl : l.length ≤ 9223372036854775807) (hk : k.length ≤ 9223372036854775807) (hm : s.length ≤ 9223372036854775807) : PCall Try.prog 7 [.slc (l.map rowE), .slc (k.map rowK), .str s] (.bool true) := by
  refine pcall_go Try.func7 comp_law09_LeafBack ?_
  by_cases h : 60 < l.length
  · have d : decide ((60 : Int) < (l.length : Int)) = true := by simp; omega
    simp (config := {maxSteps := 4000000}) only [U_law09_LeafBack, d, reduceIte, reduceCtorEq, Nat.reduceEqDiff, Nat.reduceAdd, Int.reduceLT, Int.reduceLE, Int.reduceNeg, Int.reduceEq, Nat.reduceLT, Nat.reduceSub, Nat.reduceMul, Nat.reduceBEq, Nat.reduceLeDiff, Int.reduceBEq, Int.reduceBNe, Int.reduceToNat, ne_eq, implies_true, bA]
    refine callI awake09_spec ?_
    simp (config := {maxSteps := 4000000}) only [U_law09_LeafBack, reduceIte, reduceCtorEq, Nat.reduceEqDiff, Nat.reduceAdd, Int.reduceLT, Int.reduceLE, Int.reduceNeg, Int.reduceEq, Nat.reduceLT, Nat.reduceSub, Nat.reduceMul, Nat.reduceBEq, Nat.reduceLeDiff, Int.reduceBEq, Int.reduceBNe, Int.reduceToNat, ne_eq, implies_true, bA]
  · have d : decide ((60 : Int) < (l.length : Int)) = false := by simp; omega
    by_cases h2 : 60 < k.length
    · have d2 : decide ((60 : Int) < (k.length : Int)) = true := by simp; omega
      simp (config := {maxSteps := 4000000}) only [U_law09_LeafBack, d, d2, reduceIte, reduceCtorEq, Nat.reduceEqDiff, Nat.reduceAdd, Int.reduceLT, Int.reduceLE, Int.reduceNeg, Int.reduceEq, Nat.reduceLT, Nat.reduceSub, Nat.reduceMul, Nat.reduceBEq, Nat.reduceLeDiff, Int.reduceBEq, Int.reduceBNe, Int.reduceToNat, ne_eq, implies_true, bA]
      refine callI awake09_spec ?_
      simp (config := {maxSteps := 4000000}) only [U_law09_LeafBack, reduceIte, reduceCtorEq, Nat.reduceEqDiff, Nat.reduceAdd, Int.reduceLT, Int.reduceLE, Int.reduceNeg, Int.reduceEq, Nat.reduceLT, Nat.reduceSub, Nat.reduceMul, Nat.reduceBEq, Nat.reduceLeDiff, Int.reduceBEq, Int.reduceBNe, Int.reduceToNat, ne_eq, implies_true, bA]
    · have d2 : decide ((60 : Int) < (k.length : Int)) = false := by simp; omega
      by_cases h3 : 2000 < s.length
      · have d3 : decide ((2000 : Int) < (s.length : Int)) = true := by simp; omega
        simp (config := {maxSteps := 4000000}) only [U_law09_LeafBack, d, d2, d3, reduceIte, reduceCtorEq, Nat.reduceEqDiff, Nat.reduceAdd, Int.reduceLT, Int.reduceLE, Int.reduceNeg, Int.reduceEq, Nat.reduceLT, Nat.reduceSub, Nat.reduceMul, Nat.reduceBEq, Nat.reduceLeDiff, Int.reduceBEq, Int.reduceBNe, Int.reduceToNat, ne_eq, implies_true, bA]
        refine callI awake09_spec ?_
        simp (config := {maxSteps := 4000000}) only [U_law09_LeafBack, reduceIte, reduceCtorEq, Nat.reduceEqDiff, Nat.reduceAdd, Int.reduceLT, Int.reduceLE, Int.reduceNeg, Int.reduceEq, Nat.reduceLT, Nat.reduceSub, Nat.reduceMul, Nat.reduceBEq, Nat.reduceLeDiff, Int.reduceBEq, Int.reduceBNe, Int.reduceToNat, ne_eq, implies_true, bA]
      · have d3 : decide ((2000 : Int) < (s.length : Int)) = false := by simp; omega
        have l1 := readG_len (ent := entE) (p := exAt) (k := 10) (may := leafB) s
        have l2 := readG_len (ent := entK) (p := kdAt) (k := 5) (may := kidsB) s
        simp (config := {maxSteps := 4000000}) only [U_law09_LeafBack, d, d2, d3, reduceIte, reduceCtorEq, Nat.reduceEqDiff, Nat.reduceAdd, Int.reduceLT, Int.reduceLE, Int.reduceNeg, Int.reduceEq, Nat.reduceLT, Nat.reduceSub, Nat.reduceMul, Nat.reduceBEq, Nat.reduceLeDiff, Int.reduceBEq, Int.reduceBNe, Int.reduceToNat, ne_eq, implies_true, bA]
        refine callI (Leaf_spec l hl) ?_
        cases ha : leafB l with
        | true =>
          have h8 := (leafB_iff.1 ha).2.1
          rw [wrE_yes ha]
          simp (config := {maxSteps := 4000000}) only [U_law09_LeafBack, reduceIte, reduceCtorEq, Nat.reduceEqDiff, Nat.reduceAdd, Int.reduceLT, Int.reduceLE, Int.reduceNeg, Int.reduceEq, Nat.reduceLT, Nat.reduceSub, Nat.reduceMul, Nat.reduceBEq, Nat.reduceLeDiff, Int.reduceBEq, Int.reduceBNe, Int.reduceToNat, ne_eq, implies_true, bA]
          refine callI (ReadLeaf_spec (recG entE l) (by rw [recG_len entE_len]; omega)) ?_
          rw [backE ha]
          simp (config := {maxSteps := 4000000}) only [U_law09_LeafBack, reduceIte, reduceCtorEq, Nat.reduceEqDiff, Nat.reduceAdd, Int.reduceLT, Int.reduceLE, Int.reduceNeg, Int.reduceEq, Nat.reduceLT, Nat.reduceSub, Nat.reduceMul, Nat.reduceBEq, Nat.reduceLeDiff, Int.reduceBEq, Int.reduceBNe, Int.reduceToNat, ne_eq, implies_true, bA]
          refine callI (refsExt_spec l (by omega)) ?_
          simp (config := {maxSteps := 4000000}) only [U_law09_LeafBack, reduceIte, reduceCtorEq, Nat.reduceEqDiff, Nat.reduceAdd, Int.reduceLT, Int.reduceLE, Int.reduceNeg, Int.reduceEq, Nat.reduceLT, Nat.reduceSub, Nat.reduceMul, Nat.reduceBEq, Nat.reduceLeDiff, Int.reduceBEq, Int.reduceBNe, Int.reduceToNat, ne_eq, implies_true, bA]
          refine callI (refsExt_spec l (by omega)) ?_
          simp (config := {maxSteps := 4000000}) only [U_law09_LeafBack, reduceIte, reduceCtorEq, Nat.reduceEqDiff, Nat.reduceAdd, Int.reduceLT, Int.reduceLE, Int.reduceNeg, Int.reduceEq, Nat.reduceLT, Nat.reduceSub, Nat.reduceMul, Nat.reduceBEq, Nat.reduceLeDiff, Int.reduceBEq, Int.reduceBNe, Int.reduceToNat, ne_eq, implies_true, bA]
          refine callI (sameExt_spec l l hl hl) ?_
          simp (config := {maxSteps := 4000000}) only [U_law09_LeafBack, decide_true, reduceIte, reduceCtorEq, Nat.reduceEqDiff, Nat.reduceAdd, Int.reduceLT, Int.reduceLE, Int.reduceNeg, Int.reduceEq, Nat.reduceLT, Nat.reduceSub, Nat.reduceMul, Nat.reduceBEq, Nat.reduceLeDiff, Int.reduceBEq, Int.reduceBNe, Int.reduceToNat, ne_eq, implies_true, bA]
          refine callI (Inner_spec k hk) ?_
          cases hb : kidsB k with
          | true =>
            have h8 := (kidsB_iff.1 hb).2.1
            rw [wrK_yes hb]
            simp (config := {maxSteps := 4000000}) only [U_law09_LeafBack, reduceIte, reduceCtorEq, Nat.reduceEqDiff, Nat.reduceAdd, Int.reduceLT, Int.reduceLE, Int.reduceNeg, Int.reduceEq, Nat.reduceLT, Nat.reduceSub, Nat.reduceMul, Nat.reduceBEq, Nat.reduceLeDiff, Int.reduceBEq, Int.reduceBNe, Int.reduceToNat, ne_eq, implies_true, bA]
            refine callI (ReadInner_spec (recG entK k) (by rw [recG_len entK_len]; omega)) ?_
            rw [backK hb]
            simp (config := {maxSteps := 4000000}) only [U_law09_LeafBack, reduceIte, reduceCtorEq, Nat.reduceEqDiff, Nat.reduceAdd, Int.reduceLT, Int.reduceLE, Int.reduceNeg, Int.reduceEq, Nat.reduceLT, Nat.reduceSub, Nat.reduceMul, Nat.reduceBEq, Nat.reduceLeDiff, Int.reduceBEq, Int.reduceBNe, Int.reduceToNat, ne_eq, implies_true, bA]
            refine callI (refsKid_spec k (by omega)) ?_
            simp (config := {maxSteps := 4000000}) only [U_law09_LeafBack, reduceIte, reduceCtorEq, Nat.reduceEqDiff, Nat.reduceAdd, Int.reduceLT, Int.reduceLE, Int.reduceNeg, Int.reduceEq, Nat.reduceLT, Nat.reduceSub, Nat.reduceMul, Nat.reduceBEq, Nat.reduceLeDiff, Int.reduceBEq, Int.reduceBNe, Int.reduceToNat, ne_eq, implies_true, bA]
            refine callI (refsKid_spec k (by omega)) ?_
            simp (config := {maxSteps := 4000000}) only [U_law09_LeafBack, reduceIte, reduceCtorEq, Nat.reduceEqDiff, Nat.reduceAdd, Int.reduceLT, Int.reduceLE, Int.reduceNeg, Int.reduceEq, Nat.reduceLT, Nat.reduceSub, Nat.reduceMul, Nat.reduceBEq, Nat.reduceLeDiff, Int.reduceBEq, Int.reduceBNe, Int.reduceToNat, ne_eq, implies_true, bA]
            refine callI (sameKid_spec k k hk hk) ?_
            simp (config := {maxSteps := 4000000}) only [U_law09_LeafBack, decide_true, reduceIte, reduceCtorEq, Nat.reduceEqDiff, Nat.reduceAdd, Int.reduceLT, Int.reduceLE, Int.reduceNeg, Int.reduceEq, Nat.reduceLT, Nat.reduceSub, Nat.reduceMul, Nat.reduceBEq, Nat.reduceLeDiff, Int.reduceBEq, Int.reduceBNe, Int.reduceToNat, ne_eq, implies_true, bA]
            refine callI (ReadLeaf_spec s (by omega)) ?_
            simp (config := {maxSteps := 4000000}) only [U_law09_LeafBack, reduceIte, reduceCtorEq, Nat.reduceEqDiff, Nat.reduceAdd, Int.reduceLT, Int.reduceLE, Int.reduceNeg, Int.reduceEq, Nat.reduceLT, Nat.reduceSub, Nat.reduceMul, Nat.reduceBEq, Nat.reduceLeDiff, Int.reduceBEq, Int.reduceBNe, Int.reduceToNat, ne_eq, implies_true, bA]
            refine callI (Leaf_spec (readG entE exAt 10 leafB s).1 (by omega)) ?_
            simp (config := {maxSteps := 4000000}) only [U_law09_LeafBack, reduceIte, reduceCtorEq, Nat.reduceEqDiff, Nat.reduceAdd, Int.reduceLT, Int.reduceLE, Int.reduceNeg, Int.reduceEq, Nat.reduceLT, Nat.reduceSub, Nat.reduceMul, Nat.reduceBEq, Nat.reduceLeDiff, Int.reduceBEq, Int.reduceBNe, Int.reduceToNat, ne_eq, implies_true, bA]
            refine callI (ReadInner_spec s (by omega)) ?_
            simp (config := {maxSteps := 4000000}) only [U_law09_LeafBack, reduceIte, reduceCtorEq, Nat.reduceEqDiff, Nat.reduceAdd, Int.reduceLT, Int.reduceLE, Int.reduceNeg, Int.reduceEq, Nat.reduceLT, Nat.reduceSub, Nat.reduceMul, Nat.reduceBEq, Nat.reduceLeDiff, Int.reduceBEq, Int.reduceBNe, Int.reduceToNat, ne_eq, implies_true, bA]
            refine callI (Inner_spec (readG entK kdAt 5 kidsB s).1 (by omega)) ?_
            simp (config := {maxSteps := 4000000}) only [U_law09_LeafBack, reduceIte, reduceCtorEq, Nat.reduceEqDiff, Nat.reduceAdd, Int.reduceLT, Int.reduceLE, Int.reduceNeg, Int.reduceEq, Nat.reduceLT, Nat.reduceSub, Nat.reduceMul, Nat.reduceBEq, Nat.reduceLeDiff, Int.reduceBEq, Int.reduceBNe, Int.reduceToNat, ne_eq, implies_true, bA]
            refine callI awake09_spec ?_
            by_cases e0 : (readG entE exAt 10 leafB s).2 = 0
            · obtain ⟨k1, k2⟩ := write_readG e0
              have w1 := wrE_yes k1
              rw [k2] at w1
              have z1 : ((readG entE exAt 10 leafB s).2 != 0) = false := by simpa using e0
              by_cases f0 : (readG entK kdAt 5 kidsB s).2 = 0
              · obtain ⟨k3, k4⟩ := write_readG f0
                have w2 := wrK_yes k3
                rw [k4] at w2
                have z2 : ((readG entK kdAt 5 kidsB s).2 != 0) = false := by simpa using f0
                rw [w1, w2]
                simp (config := {maxSteps := 4000000}) only [U_law09_LeafBack, z1, z2, beq_self_eq_true, reduceIte, reduceCtorEq, Nat.reduceEqDiff, Nat.reduceAdd, Int.reduceLT, Int.reduceLE, Int.reduceNeg, Int.reduceEq, Nat.reduceLT, Nat.reduceSub, Nat.reduceMul, Nat.reduceBEq, Nat.reduceLeDiff, Int.reduceBEq, Int.reduceBNe, Int.reduceToNat, ne_eq, implies_true, bA]
              · have z2 : ((readG entK kdAt 5 kidsB s).2 != 0) = true := by simpa using f0
                rw [w1]
                simp (config := {maxSteps := 4000000}) only [U_law09_LeafBack, z1, z2, beq_self_eq_true, reduceIte, reduceCtorEq, Nat.reduceEqDiff, Nat.reduceAdd, Int.reduceLT, Int.reduceLE, Int.reduceNeg, Int.reduceEq, Nat.reduceLT, Nat.reduceSub, Nat.reduceMul, Nat.reduceBEq, Nat.reduceLeDiff, Int.reduceBEq, Int.reduceBNe, Int.reduceToNat, ne_eq, implies_true, bA]
            · have z1 : ((readG entE exAt 10 leafB s).2 != 0) = true := by simpa using e0
              by_cases f0 : (readG entK kdAt 5 kidsB s).2 = 0
              · obtain ⟨k3, k4⟩ := write_readG f0
                have w2 := wrK_yes k3
                rw [k4] at w2
                have z2 : ((readG entK kdAt 5 kidsB s).2 != 0) = false := by simpa using f0
                rw [w2]
                simp (config := {maxSteps := 4000000}) only [U_law09_LeafBack, z1, z2, beq_self_eq_true, reduceIte, reduceCtorEq, Nat.reduceEqDiff, Nat.reduceAdd, Int.reduceLT, Int.reduceLE, Int.reduceNeg, Int.reduceEq, Nat.reduceLT, Nat.reduceSub, Nat.reduceMul, Nat.reduceBEq, Nat.reduceLeDiff, Int.reduceBEq, Int.reduceBNe, Int.reduceToNat, ne_eq, implies_true, bA]
              · have z2 : ((readG entK kdAt 5 kidsB s).2 != 0) = true := by simpa using f0
                simp (config := {maxSteps := 4000000}) only [U_law09_LeafBack, z1, z2, beq_self_eq_true, reduceIte, reduceCtorEq, Nat.reduceEqDiff, Nat.reduceAdd, Int.reduceLT, Int.reduceLE, Int.reduceNeg, Int.reduceEq, Nat.reduceLT, Nat.reduceSub, Nat.reduceMul, Nat.reduceBEq, Nat.reduceLeDiff, Int.reduceBEq, Int.reduceBNe, Int.reduceToNat, ne_eq, implies_true, bA]
          | false =>
            rw [wrK_no hb]
            simp (config := {maxSteps := 4000000}) only [U_law09_LeafBack, reduceIte, reduceCtorEq, Nat.reduceEqDiff, Nat.reduceAdd, Int.reduceLT, Int.reduceLE, Int.reduceNeg, Int.reduceEq, Nat.reduceLT, Nat.reduceSub, Nat.reduceMul, Nat.reduceBEq, Nat.reduceLeDiff, Int.reduceBEq, Int.reduceBNe, Int.reduceToNat, ne_eq, implies_true, bA]
            refine callI (ReadLeaf_spec s (by omega)) ?_
            simp (config := {maxSteps := 4000000}) only [U_law09_LeafBack, reduceIte, reduceCtorEq, Nat.reduceEqDiff, Nat.reduceAdd, Int.reduceLT, Int.reduceLE, Int.reduceNeg, Int.reduceEq, Nat.reduceLT, Nat.reduceSub, Nat.reduceMul, Nat.reduceBEq, Nat.reduceLeDiff, Int.reduceBEq, Int.reduceBNe, Int.reduceToNat, ne_eq, implies_true, bA]
            refine callI (Leaf_spec (readG entE exAt 10 leafB s).1 (by omega)) ?_
            simp (config := {maxSteps := 4000000}) only [U_law09_LeafBack, reduceIte, reduceCtorEq, Nat.reduceEqDiff, Nat.reduceAdd, Int.reduceLT, Int.reduceLE, Int.reduceNeg, Int.reduceEq, Nat.reduceLT, Nat.reduceSub, Nat.reduceMul, Nat.reduceBEq, Nat.reduceLeDiff, Int.reduceBEq, Int.reduceBNe, Int.reduceToNat, ne_eq, implies_true, bA]
            refine callI (ReadInner_spec s (by omega)) ?_
            simp (config := {maxSteps := 4000000}) only [U_law09_LeafBack, reduceIte, reduceCtorEq, Nat.reduceEqDiff, Nat.reduceAdd, Int.reduceLT, Int.reduceLE, Int.reduceNeg, Int.reduceEq, Nat.reduceLT, Nat.reduceSub, Nat.reduceMul, Nat.reduceBEq, Nat.reduceLeDiff, Int.reduceBEq, Int.reduceBNe, Int.reduceToNat, ne_eq, implies_true, bA]
            refine callI (Inner_spec (readG entK kdAt 5 kidsB s).1 (by omega)) ?_
            simp (config := {maxSteps := 4000000}) only [U_law09_LeafBack, reduceIte, reduceCtorEq, Nat.reduceEqDiff, Nat.reduceAdd, Int.reduceLT, Int.reduceLE, Int.reduceNeg, Int.reduceEq, Nat.reduceLT, Nat.reduceSub, Nat.reduceMul, Nat.reduceBEq, Nat.reduceLeDiff, Int.reduceBEq, Int.reduceBNe, Int.reduceToNat, ne_eq, implies_true, bA]
            refine callI awake09_spec ?_
            by_cases e0 : (readG entE exAt 10 leafB s).2 = 0
            · obtain ⟨k1, k2⟩ := write_readG e0
              have w1 := wrE_yes k1
              rw [k2] at w1
              have z1 : ((readG entE exAt 10 leafB s).2 != 0) = false := by simpa using e0
              by_cases f0 : (readG entK kdAt 5 kidsB s).2 = 0
              · obtain ⟨k3, k4⟩ := write_readG f0
                have w2 := wrK_yes k3
                rw [k4] at w2
                have z2 : ((readG entK kdAt 5 kidsB s).2 != 0) = false := by simpa using f0
                rw [w1, w2]
                simp (config := {maxSteps := 4000000}) only [U_law09_LeafBack, z1, z2, beq_self_eq_true, reduceIte, reduceCtorEq, Nat.reduceEqDiff, Nat.reduceAdd, Int.reduceLT, Int.reduceLE, Int.reduceNeg, Int.reduceEq, Nat.reduceLT, Nat.reduceSub, Nat.reduceMul, Nat.reduceBEq, Nat.reduceLeDiff, Int.reduceBEq, Int.reduceBNe, Int.reduceToNat, ne_eq, implies_true, bA]
              · have z2 : ((readG entK kdAt 5 kidsB s).2 != 0) = true := by simpa using f0
                rw [w1]
                simp (config := {maxSteps := 4000000}) only [U_law09_LeafBack, z1, z2, beq_self_eq_true, reduceIte, reduceCtorEq, Nat.reduceEqDiff, Nat.reduceAdd, Int.reduceLT, Int.reduceLE, Int.reduceNeg, Int.reduceEq, Nat.reduceLT, Nat.reduceSub, Nat.reduceMul, Nat.reduceBEq, Nat.reduceLeDiff, Int.reduceBEq, Int.reduceBNe, Int.reduceToNat, ne_eq, implies_true, bA]
            · have z1 : ((readG entE exAt 10 leafB s).2 != 0) = true := by simpa using e0
              by_cases f0 : (readG entK kdAt 5 kidsB s).2 = 0
              · obtain ⟨k3, k4⟩ := write_readG f0
                have w2 := wrK_yes k3
                rw [k4] at w2
                have z2 : ((readG entK kdAt 5 kidsB s).2 != 0) = false := by simpa using f0
                rw [w2]
                simp (config := {maxSteps := 4000000}) only [U_law09_LeafBack, z1, z2, beq_self_eq_true, reduceIte, reduceCtorEq, Nat.reduceEqDiff, Nat.reduceAdd, Int.reduceLT, Int.reduceLE, Int.reduceNeg, Int.reduceEq, Nat.reduceLT, Nat.reduceSub, Nat.reduceMul, Nat.reduceBEq, Nat.reduceLeDiff, Int.reduceBEq, Int.reduceBNe, Int.reduceToNat, ne_eq, implies_true, bA]
              · have z2 : ((readG entK kdAt 5 kidsB s).2 != 0) = true := by simpa using f0
                simp (config := {maxSteps := 4000000}) only [U_law09_LeafBack, z1, z2, beq_self_eq_true, reduceIte, reduceCtorEq, Nat.reduceEqDiff, Nat.reduceAdd, Int.reduceLT, Int.reduceLE, Int.reduceNeg, Int.reduceEq, Nat.reduceLT, Nat.reduceSub, Nat.reduceMul, Nat.reduceBEq, Nat.reduceLeDiff, Int.reduceBEq, Int.reduceBNe, Int.reduceToNat, ne_eq, implies_true, bA]
        | false =>
          rw [wrE_no ha]
          simp (config := {maxSteps := 4000000}) only [U_law09_LeafBack, reduceIte, reduceCtorEq, Nat.reduceEqDiff, Nat.reduceAdd, Int.reduceLT, Int.reduceLE, Int.reduceNeg, Int.reduceEq, Nat.reduceLT, Nat.reduceSub, Nat.reduceMul, Nat.reduceBEq, Nat.reduceLeDiff, Int.reduceBEq, Int.reduceBNe, Int.reduceToNat, ne_eq, implies_true, bA]
          refine callI (Inner_spec k hk) ?_
          cases hb : kidsB k with
          | true =>
            have h8 := (kidsB_iff.1 hb).2.1
            rw [wrK_yes hb]
            simp (config := {maxSteps := 4000000}) only [U_law09_LeafBack, reduceIte, reduceCtorEq, Nat.reduceEqDiff, Nat.reduceAdd, Int.reduceLT, Int.reduceLE, Int.reduceNeg, Int.reduceEq, Nat.reduceLT, Nat.reduceSub, Nat.reduceMul, Nat.reduceBEq, Nat.reduceLeDiff, Int.reduceBEq, Int.reduceBNe, Int.reduceToNat, ne_eq, implies_true, bA]
            refine callI (ReadInner_spec (recG entK k) (by rw [recG_len entK_len]; omega)) ?_
            rw [backK hb]
            simp (config := {maxSteps := 4000000}) only [U_law09_LeafBack, reduceIte, reduceCtorEq, Nat.reduceEqDiff, Nat.reduceAdd, Int.reduceLT, Int.reduceLE, Int.reduceNeg, Int.reduceEq, Nat.reduceLT, Nat.reduceSub, Nat.reduceMul, Nat.reduceBEq, Nat.reduceLeDiff, Int.reduceBEq, Int.reduceBNe, Int.reduceToNat, ne_eq, implies_true, bA]
            refine callI (refsKid_spec k (by omega)) ?_
            simp (config := {maxSteps := 4000000}) only [U_law09_LeafBack, reduceIte, reduceCtorEq, Nat.reduceEqDiff, Nat.reduceAdd, Int.reduceLT, Int.reduceLE, Int.reduceNeg, Int.reduceEq, Nat.reduceLT, Nat.reduceSub, Nat.reduceMul, Nat.reduceBEq, Nat.reduceLeDiff, Int.reduceBEq, Int.reduceBNe, Int.reduceToNat, ne_eq, implies_true, bA]
            refine callI (refsKid_spec k (by omega)) ?_
            simp (config := {maxSteps := 4000000}) only [U_law09_LeafBack, reduceIte, reduceCtorEq, Nat.reduceEqDiff, Nat.reduceAdd, Int.reduceLT, Int.reduceLE, Int.reduceNeg, Int.reduceEq, Nat.reduceLT, Nat.reduceSub, Nat.reduceMul, Nat.reduceBEq, Nat.reduceLeDiff, Int.reduceBEq, Int.reduceBNe, Int.reduceToNat, ne_eq, implies_true, bA]
            refine callI (sameKid_spec k k hk hk) ?_
            simp (config := {maxSteps := 4000000}) only [U_law09_LeafBack, decide_true, reduceIte, reduceCtorEq, Nat.reduceEqDiff, Nat.reduceAdd, Int.reduceLT, Int.reduceLE, Int.reduceNeg, Int.reduceEq, Nat.reduceLT, Nat.reduceSub, Nat.reduceMul, Nat.reduceBEq, Nat.reduceLeDiff, Int.reduceBEq, Int.reduceBNe, Int.reduceToNat, ne_eq, implies_true, bA]
            refine callI (ReadLeaf_spec s (by omega)) ?_
            simp (config := {maxSteps := 4000000}) only [U_law09_LeafBack, reduceIte, reduceCtorEq, Nat.reduceEqDiff, Nat.reduceAdd, Int.reduceLT, Int.reduceLE, Int.reduceNeg, Int.reduceEq, Nat.reduceLT, Nat.reduceSub, Nat.reduceMul, Nat.reduceBEq, Nat.reduceLeDiff, Int.reduceBEq, Int.reduceBNe, Int.reduceToNat, ne_eq, implies_true, bA]
            refine callI (Leaf_spec (readG entE exAt 10 leafB s).1 (by omega)) ?_
            simp (config := {maxSteps := 4000000}) only [U_law09_LeafBack, reduceIte, reduceCtorEq, Nat.reduceEqDiff, Nat.reduceAdd, Int.reduceLT, Int.reduceLE, Int.reduceNeg, Int.reduceEq, Nat.reduceLT, Nat.reduceSub, Nat.reduceMul, Nat.reduceBEq, Nat.reduceLeDiff, Int.reduceBEq, Int.reduceBNe, Int.reduceToNat, ne_eq, implies_true, bA]
            refine callI (ReadInner_spec s (by omega)) ?_
            simp (config := {maxSteps := 4000000}) only [U_law09_LeafBack, reduceIte, reduceCtorEq, Nat.reduceEqDiff, Nat.reduceAdd, Int.reduceLT, Int.reduceLE, Int.reduceNeg, Int.reduceEq, Nat.reduceLT, Nat.reduceSub, Nat.reduceMul, Nat.reduceBEq, Nat.reduceLeDiff, Int.reduceBEq, Int.reduceBNe, Int.reduceToNat, ne_eq, implies_true, bA]
            refine callI (Inner_spec (readG entK kdAt 5 kidsB s).1 (by omega)) ?_
            simp (config := {maxSteps := 4000000}) only [U_law09_LeafBack, reduceIte, reduceCtorEq, Nat.reduceEqDiff, Nat.reduceAdd, Int.reduceLT, Int.reduceLE, Int.reduceNeg, Int.reduceEq, Nat.reduceLT, Nat.reduceSub, Nat.reduceMul, Nat.reduceBEq, Nat.reduceLeDiff, Int.reduceBEq, Int.reduceBNe, Int.reduceToNat, ne_eq, implies_true, bA]
            refine callI awake09_spec ?_
            by_cases e0 : (readG entE exAt 10 leafB s).2 = 0
            · obtain ⟨k1, k2⟩ := write_readG e0
              have w1 := wrE_yes k1
              rw [k2] at w1
              have z1 : ((readG entE exAt 10 leafB s).2 != 0) = false := by simpa using e0
              by_cases f0 : (readG entK kdAt 5 kidsB s).2 = 0
              · obtain ⟨k3, k4⟩ := write_readG f0
                have w2 := wrK_yes k3
                rw [k4] at w2
                have z2 : ((readG entK kdAt 5 kidsB s).2 != 0) = false := by simpa using f0
                rw [w1, w2]
                simp (config := {maxSteps := 4000000}) only [U_law09_LeafBack, z1, z2, beq_self_eq_true, reduceIte, reduceCtorEq, Nat.reduceEqDiff, Nat.reduceAdd, Int.reduceLT, Int.reduceLE, Int.reduceNeg, Int.reduceEq, Nat.reduceLT, Nat.reduceSub, Nat.reduceMul, Nat.reduceBEq, Nat.reduceLeDiff, Int.reduceBEq, Int.reduceBNe, Int.reduceToNat, ne_eq, implies_true, bA]
              · have z2 : ((readG entK kdAt 5 kidsB s).2 != 0) = true := by simpa using f0
                rw [w1]
                simp (config := {maxSteps := 4000000}) only [U_law09_LeafBack, z1, z2, beq_self_eq_true, reduceIte, reduceCtorEq, Nat.reduceEqDiff, Nat.reduceAdd, Int.reduceLT, Int.reduceLE, Int.reduceNeg, Int.reduceEq, Nat.reduceLT, Nat.reduceSub, Nat.reduceMul, Nat.reduceBEq, Nat.reduceLeDiff, Int.reduceBEq, Int.reduceBNe, Int.reduceToNat, ne_eq, implies_true, bA]
            · have z1 : ((readG entE exAt 10 leafB s).2 != 0) = true := by simpa using e0
              by_cases f0 : (readG entK kdAt 5 kidsB s).2 = 0
              · obtain ⟨k3, k4⟩ := write_readG f0
                have w2 := wrK_yes k3
                rw [k4] at w2
                have z2 : ((readG entK kdAt 5 kidsB s).2 != 0) = false := by simpa using f0
                rw [w2]
                simp (config := {maxSteps := 4000000}) only [U_law09_LeafBack, z1, z2, beq_self_eq_true, reduceIte, reduceCtorEq, Nat.reduceEqDiff, Nat.reduceAdd, Int.reduceLT, Int.reduceLE, Int.reduceNeg, Int.reduceEq, Nat.reduceLT, Nat.reduceSub, Nat.reduceMul, Nat.reduceBEq, Nat.reduceLeDiff, Int.reduceBEq, Int.reduceBNe, Int.reduceToNat, ne_eq, implies_true, bA]
              · have z2 : ((readG entK kdAt 5 kidsB s).2 != 0) = true := by simpa using f0
                simp (config := {maxSteps := 4000000}) only [U_law09_LeafBack, z1, z2, beq_self_eq_true, reduceIte, reduceCtorEq, Nat.reduceEqDiff, Nat.reduceAdd, Int.reduceLT, Int.reduceLE, Int.reduceNeg, Int.reduceEq, Nat.reduceLT, Nat.reduceSub, Nat.reduceMul, Nat.reduceBEq, Nat.reduceLeDiff, Int.reduceBEq, Int.reduceBNe, Int.reduceToNat, ne_eq, implies_true, bA]
          | false =>
            rw [wrK_no hb]
            simp (config := {maxSteps := 4000000}) only [U_law09_LeafBack, reduceIte, reduceCtorEq, Nat.reduceEqDiff, Nat.reduceAdd, Int.reduceLT, Int.reduceLE, Int.reduceNeg, Int.reduceEq, Nat.reduceLT, Nat.reduceSub, Nat.reduceMul, Nat.reduceBEq, Nat.reduceLeDiff, Int.reduceBEq, Int.reduceBNe, Int.reduceToNat, ne_eq, implies_true, bA]
            refine callI (ReadLeaf_spec s (by omega)) ?_
            simp (config := {maxSteps := 4000000}) only [U_law09_LeafBack, reduceIte, reduceCtorEq, Nat.reduceEqDiff, Nat.reduceAdd, Int.reduceLT, Int.reduceLE, Int.reduceNeg, Int.reduceEq, Nat.reduceLT, Nat.reduceSub, Nat.reduceMul, Nat.reduceBEq, Nat.reduceLeDiff, Int.reduceBEq, Int.reduceBNe, Int.reduceToNat, ne_eq, implies_true, bA]
            refine callI (Leaf_spec (readG entE exAt 10 leafB s).1 (by omega)) ?_
            simp (config := {maxSteps := 4000000}) only [U_law09_LeafBack, reduceIte, reduceCtorEq, Nat.reduceEqDiff, Nat.reduceAdd, Int.reduceLT, Int.reduceLE, Int.reduceNeg, Int.reduceEq, Nat.reduceLT, Nat.reduceSub, Nat.reduceMul, Nat.reduceBEq, Nat.reduceLeDiff, Int.reduceBEq, Int.reduceBNe, Int.reduceToNat, ne_eq, implies_true, bA]
            refine callI (ReadInner_spec s (by omega)) ?_
            simp (config := {maxSteps := 4000000}) only [U_law09_LeafBack, reduceIte, reduceCtorEq, Nat.reduceEqDiff, Nat.reduceAdd, Int.reduceLT, Int.reduceLE, Int.reduceNeg, Int.reduceEq, Nat.reduceLT, Nat.reduceSub, Nat.reduceMul, Nat.reduceBEq, Nat.reduceLeDiff, Int.reduceBEq, Int.reduceBNe, Int.reduceToNat, ne_eq, implies_true, bA]
            refine callI (Inner_spec (readG entK kdAt 5 kidsB s).1 (by omega)) ?_
            simp (config := {maxSteps := 4000000}) only [U_law09_LeafBack, reduceIte, reduceCtorEq, Nat.reduceEqDiff, Nat.reduceAdd, Int.reduceLT, Int.reduceLE, Int.reduceNeg, Int.reduceEq, Nat.reduceLT, Nat.reduceSub, Nat.reduceMul, Nat.reduceBEq, Nat.reduceLeDiff, Int.reduceBEq, Int.reduceBNe, Int.reduceToNat, ne_eq, implies_true, bA]
            refine callI awake09_spec ?_
            by_cases e0 : (readG entE exAt 10 leafB s).2 = 0
            · obtain ⟨k1, k2⟩ := write_readG e0
              have w1 := wrE_yes k1
              rw [k2] at w1
              have z1 : ((readG entE exAt 10 leafB s).2 != 0) = false := by simpa using e0
              by_cases f0 : (readG entK kdAt 5 kidsB s).2 = 0
              · obtain ⟨k3, k4⟩ := write_readG f0
                have w2 := wrK_yes k3
                rw [k4] at w2
                have z2 : ((readG entK kdAt 5 kidsB s).2 != 0) = false := by simpa using f0
                rw [w1, w2]
                simp (config := {maxSteps := 4000000}) only [U_law09_LeafBack, z1, z2, beq_self_eq_true, reduceIte, reduceCtorEq, Nat.reduceEqDiff, Nat.reduceAdd, Int.reduceLT, Int.reduceLE, Int.reduceNeg, Int.reduceEq, Nat.reduceLT, Nat.reduceSub, Nat.reduceMul, Nat.reduceBEq, Nat.reduceLeDiff, Int.reduceBEq, Int.reduceBNe, Int.reduceToNat, ne_eq, implies_true, bA]
              · have z2 : ((readG entK kdAt 5 kidsB s).2 != 0) = true := by simpa using f0
                rw [w1]
                simp (config := {maxSteps := 4000000}) only [U_law09_LeafBack, z1, z2, beq_self_eq_true, reduceIte, reduceCtorEq, Nat.reduceEqDiff, Nat.reduceAdd, Int.reduceLT, Int.reduceLE, Int.reduceNeg, Int.reduceEq, Nat.reduceLT, Nat.reduceSub, Nat.reduceMul, Nat.reduceBEq, Nat.reduceLeDiff, Int.reduceBEq, Int.reduceBNe, Int.reduceToNat, ne_eq, implies_true, bA]
            · have z1 : ((readG entE exAt 10 leafB s).2 != 0) = true := by simpa using e0
              by_cases f0 : (readG entK kdAt 5 kidsB s).2 = 0
              · obtain ⟨k3, k4⟩ := write_readG f0
                have w2 := wrK_yes k3
                rw [k4] at w2
                have z2 : ((readG entK kdAt 5 kidsB s).2 != 0) = false := by simpa using f0
                rw [w2]
                simp (config := {maxSteps := 4000000}) only [U_law09_LeafBack, z1, z2, beq_self_eq_true, reduceIte, reduceCtorEq, Nat.reduceEqDiff, Nat.reduceAdd, Int.reduceLT, Int.reduceLE, Int.reduceNeg, Int.reduceEq, Nat.reduceLT, Nat.reduceSub, Nat.reduceMul, Nat.reduceBEq, Nat.reduceLeDiff, Int.reduceBEq, Int.reduceBNe, Int.reduceToNat, ne_eq, implies_true, bA]
              · have z2 : ((readG entK kdAt 5 kidsB s).2 != 0) = true := by simpa using f0
                simp (config := {maxSteps := 4000000}) only [U_law09_LeafBack, z1, z2, beq_self_eq_true, reduceIte, reduceCtorEq, Nat.reduceEqDiff, Nat.reduceAdd, Int.reduceLT, Int.reduceLE, Int.reduceNeg, Int.reduceEq, Nat.reduceLT, Nat.reduceSub, Nat.reduceMul, Nat.reduceBEq, Nat.reduceLeDiff, Int.reduceBEq, Int.reduceBNe, Int.reduceToNat, ne_eq, implies_true, bA]
theorem halves_law (l : List Xt) (k : List Kd) (at0 : Int) (hl : l.length ≤ 9223372036854775807) (hk : k.length ≤ 9223372036854775807) : PCall Try.prog 6 [.slc (l.map rowE), .slc (k.map rowK), .int .i64 at0] (.bool true) := by
  refine pcall_go Try.func6 comp_law09_LeafHalves ?_
  by_cases h : 60 < l.length
  · have d : decide ((60 : Int) < (l.length : Int)) = true := by simp; omega
    simp (config := {maxSteps := 4000000}) only [U_law09_LeafHalves, d, reduceIte, reduceCtorEq, Nat.reduceEqDiff, Nat.reduceAdd, Int.reduceLT, Int.reduceLE, Int.reduceNeg, Int.reduceEq, Nat.reduceLT, Nat.reduceSub, Nat.reduceMul, Nat.reduceBEq, Nat.reduceLeDiff, Int.reduceBEq, Int.reduceBNe, Int.reduceToNat, ne_eq, implies_true, bA]
    refine callI awake09_spec ?_
    simp (config := {maxSteps := 4000000}) only [U_law09_LeafHalves, reduceIte, reduceCtorEq, Nat.reduceEqDiff, Nat.reduceAdd, Int.reduceLT, Int.reduceLE, Int.reduceNeg, Int.reduceEq, Nat.reduceLT, Nat.reduceSub, Nat.reduceMul, Nat.reduceBEq, Nat.reduceLeDiff, Int.reduceBEq, Int.reduceBNe, Int.reduceToNat, ne_eq, implies_true, bA]
  · have d : decide ((60 : Int) < (l.length : Int)) = false := by simp; omega
    by_cases h2 : 60 < k.length
    · have d2 : decide ((60 : Int) < (k.length : Int)) = true := by simp; omega
      simp (config := {maxSteps := 4000000}) only [U_law09_LeafHalves, d, d2, reduceIte, reduceCtorEq, Nat.reduceEqDiff, Nat.reduceAdd, Int.reduceLT, Int.reduceLE, Int.reduceNeg, Int.reduceEq, Nat.reduceLT, Nat.reduceSub, Nat.reduceMul, Nat.reduceBEq, Nat.reduceLeDiff, Int.reduceBEq, Int.reduceBNe, Int.reduceToNat, ne_eq, implies_true, bA]
      refine callI awake09_spec ?_
      simp (config := {maxSteps := 4000000}) only [U_law09_LeafHalves, reduceIte, reduceCtorEq, Nat.reduceEqDiff, Nat.reduceAdd, Int.reduceLT, Int.reduceLE, Int.reduceNeg, Int.reduceEq, Nat.reduceLT, Nat.reduceSub, Nat.reduceMul, Nat.reduceBEq, Nat.reduceLeDiff, Int.reduceBEq, Int.reduceBNe, Int.reduceToNat, ne_eq, implies_true, bA]
    · have d2 : decide ((60 : Int) < (k.length : Int)) = false := by simp; omega
      simp (config := {maxSteps := 4000000}) only [U_law09_LeafHalves, d, d2, reduceIte, reduceCtorEq, Nat.reduceEqDiff, Nat.reduceAdd, Int.reduceLT, Int.reduceLE, Int.reduceNeg, Int.reduceEq, Nat.reduceLT, Nat.reduceSub, Nat.reduceMul, Nat.reduceBEq, Nat.reduceLeDiff, Int.reduceBEq, Int.reduceBNe, Int.reduceToNat, ne_eq, implies_true, bA]
      refine callI (Leaf_spec l hl) ?_
      cases ha : leafB l with
      | true =>
        rw [wrE_yes ha]
        have h8 := (leafB_iff.1 ha).2.1
        by_cases h1 : 1 < l.length
        · have dl : decide ((1 : Int) < (l.length : Int)) = true := by simp only [decide_eq_true_eq]; omega
          obtain ⟨m, hm⟩ : ∃ m : Nat, (m : Int) = (l.length : Int) - 1 := ⟨l.length - 1, by omega⟩
          have hm0 : (m : Int) ≠ 0 := by omega
          have a1 := Int.tmod_lt_of_pos at0 (show (0 : Int) < m by omega)
          have a2 : -(m : Int) < at0.tmod m := by have := Int.lt_tmod_of_pos at0 (show (0 : Int) < m by omega); omega
          obtain ⟨fi, hfi, hfl⟩ : ∃ fi : Nat, (fi : Int) = (at0.tmod m + m).tmod m ∧ fi < m := by
            have hc := Int.tmod_nonneg (m : Int) (show (0 : Int) ≤ at0.tmod m + m by omega)
            have hd := Int.tmod_lt_of_pos (at0.tmod m + m) (show (0 : Int) < m by omega)
            exact ⟨((at0.tmod m + m).tmod m).toNat, by omega, by omega⟩
          have w1 : IntKind.i64.wrap ((l.length : Int) - 1) = (m : Int) := by rw [wrapI (by omega) (by omega)]; omega
          have w2 : IntKind.i64.wrap (at0.tmod m + (l.length : Int)) = at0.tmod m + (l.length : Int) := wrapI (by omega) (by omega)
          have w3 : IntKind.i64.wrap (at0.tmod m + (l.length : Int) - 1) = at0.tmod m + m := by rw [wrapI (by omega) (by omega)]; omega
          have w4 : IntKind.i64.wrap (1 + (fi : Int)) = ((1 + fi : Nat) : Int) := by rw [wrapI (by omega) (by omega)]; omega
          have hrk : rowsOk 4 (l.map rowE) = true := rowsOk_map rowE_len l
          have s1 : ∀ ob fb, sslV ob fb 4 (.slc (l.map rowE)) (some none) (some (some ((1 + fi : Nat) : Int))) = some (.slc ((l.take (1 + fi)).map rowE)) := fun ob fb => by rw [sslV_to hrk (by simp; omega), List.map_take]
          have s2 : ∀ ob fb, sslV ob fb 4 (.slc (l.map rowE)) (some (some ((1 + fi : Nat) : Int))) (some none) = some (.slc ((l.drop (1 + fi)).map rowE)) := fun ob fb => by rw [sslV_from hrk (by simp; omega), List.map_drop]
          simp (config := {maxSteps := 4000000}) only [U_law09_LeafHalves, dl, w1, binI_rem hm0, w2, w3, ← hfi, w4, s1, reduceIte, reduceCtorEq, Nat.reduceEqDiff, Nat.reduceAdd, Int.reduceLT, Int.reduceLE, Int.reduceNeg, Int.reduceEq, Nat.reduceLT, Nat.reduceSub, Nat.reduceMul, Nat.reduceBEq, Nat.reduceLeDiff, Int.reduceBEq, Int.reduceBNe, Int.reduceToNat, ne_eq, implies_true, bA]
          refine callI (Leaf_spec (l.take (1 + fi)) (by simp; omega)) ?_
          rw [wrE_yes (leaf_take ha (by omega) (by omega))]
          simp (config := {maxSteps := 4000000}) only [U_law09_LeafHalves, s2, reduceIte, reduceCtorEq, Nat.reduceEqDiff, Nat.reduceAdd, Int.reduceLT, Int.reduceLE, Int.reduceNeg, Int.reduceEq, Nat.reduceLT, Nat.reduceSub, Nat.reduceMul, Nat.reduceBEq, Nat.reduceLeDiff, Int.reduceBEq, Int.reduceBNe, Int.reduceToNat, ne_eq, implies_true, bA]
          refine callI (Leaf_spec (l.drop (1 + fi)) (by simp; omega)) ?_
          rw [wrE_yes (leaf_drop ha (by omega))]
          simp (config := {maxSteps := 4000000}) only [U_law09_LeafHalves, reduceIte, reduceCtorEq, Nat.reduceEqDiff, Nat.reduceAdd, Int.reduceLT, Int.reduceLE, Int.reduceNeg, Int.reduceEq, Nat.reduceLT, Nat.reduceSub, Nat.reduceMul, Nat.reduceBEq, Nat.reduceLeDiff, Int.reduceBEq, Int.reduceBNe, Int.reduceToNat, ne_eq, implies_true, bA]
          refine callI (Inner_spec k hk) ?_
          cases hb : kidsB k with
          | true =>
            rw [wrK_yes hb]
            have h8 := (kidsB_iff.1 hb).2.1
            by_cases h1 : 3 < k.length
            · have dk : decide ((3 : Int) < (k.length : Int)) = true := by simp only [decide_eq_true_eq]; omega
              obtain ⟨m, hm⟩ : ∃ m : Nat, (m : Int) = (k.length : Int) - 3 := ⟨k.length - 3, by omega⟩
              have hm0 : (m : Int) ≠ 0 := by omega
              have a1 := Int.tmod_lt_of_pos at0 (show (0 : Int) < m by omega)
              have a2 : -(m : Int) < at0.tmod m := by have := Int.lt_tmod_of_pos at0 (show (0 : Int) < m by omega); omega
              obtain ⟨fi, hfi, hfl⟩ : ∃ fi : Nat, (fi : Int) = (at0.tmod m + m).tmod m ∧ fi < m := by
                have hc := Int.tmod_nonneg (m : Int) (show (0 : Int) ≤ at0.tmod m + m by omega)
                have hd := Int.tmod_lt_of_pos (at0.tmod m + m) (show (0 : Int) < m by omega)
                exact ⟨((at0.tmod m + m).tmod m).toNat, by omega, by omega⟩
              have w1 : IntKind.i64.wrap ((k.length : Int) - 3) = (m : Int) := by rw [wrapI (by omega) (by omega)]; omega
              have w2 : IntKind.i64.wrap (at0.tmod m + (k.length : Int)) = at0.tmod m + (k.length : Int) := wrapI (by omega) (by omega)
              have w3 : IntKind.i64.wrap (at0.tmod m + (k.length : Int) - 3) = at0.tmod m + m := by rw [wrapI (by omega) (by omega)]; omega
              have w4 : IntKind.i64.wrap (2 + (fi : Int)) = ((2 + fi : Nat) : Int) := by rw [wrapI (by omega) (by omega)]; omega
              have hrk : rowsOk 2 (k.map rowK) = true := rowsOk_map rowK_len k
              have s1 : ∀ ob fb, sslV ob fb 2 (.slc (k.map rowK)) (some none) (some (some ((2 + fi : Nat) : Int))) = some (.slc ((k.take (2 + fi)).map rowK)) := fun ob fb => by rw [sslV_to hrk (by simp; omega), List.map_take]
              have s2 : ∀ ob fb, sslV ob fb 2 (.slc (k.map rowK)) (some (some ((2 + fi : Nat) : Int))) (some none) = some (.slc ((k.drop (2 + fi)).map rowK)) := fun ob fb => by rw [sslV_from hrk (by simp; omega), List.map_drop]
              simp (config := {maxSteps := 4000000}) only [U_law09_LeafHalves, dk, w1, binI_rem hm0, w2, w3, ← hfi, w4, s1, reduceIte, reduceCtorEq, Nat.reduceEqDiff, Nat.reduceAdd, Int.reduceLT, Int.reduceLE, Int.reduceNeg, Int.reduceEq, Nat.reduceLT, Nat.reduceSub, Nat.reduceMul, Nat.reduceBEq, Nat.reduceLeDiff, Int.reduceBEq, Int.reduceBNe, Int.reduceToNat, ne_eq, implies_true, bA]
              refine callI (Inner_spec (k.take (2 + fi)) (by simp; omega)) ?_
              rw [wrK_yes (kids_take hb (by omega) (by omega))]
              simp (config := {maxSteps := 4000000}) only [U_law09_LeafHalves, s2, reduceIte, reduceCtorEq, Nat.reduceEqDiff, Nat.reduceAdd, Int.reduceLT, Int.reduceLE, Int.reduceNeg, Int.reduceEq, Nat.reduceLT, Nat.reduceSub, Nat.reduceMul, Nat.reduceBEq, Nat.reduceLeDiff, Int.reduceBEq, Int.reduceBNe, Int.reduceToNat, ne_eq, implies_true, bA]
              refine callI (Inner_spec (k.drop (2 + fi)) (by simp; omega)) ?_
              rw [wrK_yes (kids_drop hb (by omega))]
              simp (config := {maxSteps := 4000000}) only [U_law09_LeafHalves, reduceIte, reduceCtorEq, Nat.reduceEqDiff, Nat.reduceAdd, Int.reduceLT, Int.reduceLE, Int.reduceNeg, Int.reduceEq, Nat.reduceLT, Nat.reduceSub, Nat.reduceMul, Nat.reduceBEq, Nat.reduceLeDiff, Int.reduceBEq, Int.reduceBNe, Int.reduceToNat, ne_eq, implies_true, bA]
              refine callI awake09_spec ?_
              simp (config := {maxSteps := 4000000}) only [U_law09_LeafHalves, reduceIte, reduceCtorEq, Nat.reduceEqDiff, Nat.reduceAdd, Int.reduceLT, Int.reduceLE, Int.reduceNeg, Int.reduceEq, Nat.reduceLT, Nat.reduceSub, Nat.reduceMul, Nat.reduceBEq, Nat.reduceLeDiff, Int.reduceBEq, Int.reduceBNe, Int.reduceToNat, ne_eq, implies_true, bA]
            · have dk : decide ((3 : Int) < (k.length : Int)) = false := by simp only [decide_eq_false_iff_not]; omega
              simp (config := {maxSteps := 4000000}) only [U_law09_LeafHalves, dk, reduceIte, reduceCtorEq, Nat.reduceEqDiff, Nat.reduceAdd, Int.reduceLT, Int.reduceLE, Int.reduceNeg, Int.reduceEq, Nat.reduceLT, Nat.reduceSub, Nat.reduceMul, Nat.reduceBEq, Nat.reduceLeDiff, Int.reduceBEq, Int.reduceBNe, Int.reduceToNat, ne_eq, implies_true, bA]
              refine callI awake09_spec ?_
              simp (config := {maxSteps := 4000000}) only [U_law09_LeafHalves, reduceIte, reduceCtorEq, Nat.reduceEqDiff, Nat.reduceAdd, Int.reduceLT, Int.reduceLE, Int.reduceNeg, Int.reduceEq, Nat.reduceLT, Nat.reduceSub, Nat.reduceMul, Nat.reduceBEq, Nat.reduceLeDiff, Int.reduceBEq, Int.reduceBNe, Int.reduceToNat, ne_eq, implies_true, bA]
          | false =>
            rw [wrK_no hb]
            simp (config := {maxSteps := 4000000}) only [U_law09_LeafHalves, reduceIte, reduceCtorEq, Nat.reduceEqDiff, Nat.reduceAdd, Int.reduceLT, Int.reduceLE, Int.reduceNeg, Int.reduceEq, Nat.reduceLT, Nat.reduceSub, Nat.reduceMul, Nat.reduceBEq, Nat.reduceLeDiff, Int.reduceBEq, Int.reduceBNe, Int.reduceToNat, ne_eq, implies_true, bA]
            refine callI awake09_spec ?_
            simp (config := {maxSteps := 4000000}) only [U_law09_LeafHalves, reduceIte, reduceCtorEq, Nat.reduceEqDiff, Nat.reduceAdd, Int.reduceLT, Int.reduceLE, Int.reduceNeg, Int.reduceEq, Nat.reduceLT, Nat.reduceSub, Nat.reduceMul, Nat.reduceBEq, Nat.reduceLeDiff, Int.reduceBEq, Int.reduceBNe, Int.reduceToNat, ne_eq, implies_true, bA]
        · have dl : decide ((1 : Int) < (l.length : Int)) = false := by simp only [decide_eq_false_iff_not]; omega
          simp (config := {maxSteps := 4000000}) only [U_law09_LeafHalves, dl, reduceIte, reduceCtorEq, Nat.reduceEqDiff, Nat.reduceAdd, Int.reduceLT, Int.reduceLE, Int.reduceNeg, Int.reduceEq, Nat.reduceLT, Nat.reduceSub, Nat.reduceMul, Nat.reduceBEq, Nat.reduceLeDiff, Int.reduceBEq, Int.reduceBNe, Int.reduceToNat, ne_eq, implies_true, bA]
          refine callI (Inner_spec k hk) ?_
          cases hb : kidsB k with
          | true =>
            rw [wrK_yes hb]
            have h8 := (kidsB_iff.1 hb).2.1
            by_cases h1 : 3 < k.length
            · have dk : decide ((3 : Int) < (k.length : Int)) = true := by simp only [decide_eq_true_eq]; omega
              obtain ⟨m, hm⟩ : ∃ m : Nat, (m : Int) = (k.length : Int) - 3 := ⟨k.length - 3, by omega⟩
              have hm0 : (m : Int) ≠ 0 := by omega
              have a1 := Int.tmod_lt_of_pos at0 (show (0 : Int) < m by omega)
              have a2 : -(m : Int) < at0.tmod m := by have := Int.lt_tmod_of_pos at0 (show (0 : Int) < m by omega); omega
              obtain ⟨fi, hfi, hfl⟩ : ∃ fi : Nat, (fi : Int) = (at0.tmod m + m).tmod m ∧ fi < m := by
                have hc := Int.tmod_nonneg (m : Int) (show (0 : Int) ≤ at0.tmod m + m by omega)
                have hd := Int.tmod_lt_of_pos (at0.tmod m + m) (show (0 : Int) < m by omega)
                exact ⟨((at0.tmod m + m).tmod m).toNat, by omega, by omega⟩
              have w1 : IntKind.i64.wrap ((k.length : Int) - 3) = (m : Int) := by rw [wrapI (by omega) (by omega)]; omega
              have w2 : IntKind.i64.wrap (at0.tmod m + (k.length : Int)) = at0.tmod m + (k.length : Int) := wrapI (by omega) (by omega)
              have w3 : IntKind.i64.wrap (at0.tmod m + (k.length : Int) - 3) = at0.tmod m + m := by rw [wrapI (by omega) (by omega)]; omega
              have w4 : IntKind.i64.wrap (2 + (fi : Int)) = ((2 + fi : Nat) : Int) := by rw [wrapI (by omega) (by omega)]; omega
              have hrk : rowsOk 2 (k.map rowK) = true := rowsOk_map rowK_len k
              have s1 : ∀ ob fb, sslV ob fb 2 (.slc (k.map rowK)) (some none) (some (some ((2 + fi : Nat) : Int))) = some (.slc ((k.take (2 + fi)).map rowK)) := fun ob fb => by rw [sslV_to hrk (by simp; omega), List.map_take]
              have s2 : ∀ ob fb, sslV ob fb 2 (.slc (k.map rowK)) (some (some ((2 + fi : Nat) : Int))) (some none) = some (.slc ((k.drop (2 + fi)).map rowK)) := fun ob fb => by rw [sslV_from hrk (by simp; omega), List.map_drop]
              simp (config := {maxSteps := 4000000}) only [U_law09_LeafHalves, dk, w1, binI_rem hm0, w2, w3, ← hfi, w4, s1, reduceIte, reduceCtorEq, Nat.reduceEqDiff, Nat.reduceAdd, Int.reduceLT, Int.reduceLE, Int.reduceNeg, Int.reduceEq, Nat.reduceLT, Nat.reduceSub, Nat.reduceMul, Nat.reduceBEq, Nat.reduceLeDiff, Int.reduceBEq, Int.reduceBNe, Int.reduceToNat, ne_eq, implies_true, bA]
              refine callI (Inner_spec (k.take (2 + fi)) (by simp; omega)) ?_
              rw [wrK_yes (kids_take hb (by omega) (by omega))]
              simp (config := {maxSteps := 4000000}) only [U_law09_LeafHalves, s2, reduceIte, reduceCtorEq, Nat.reduceEqDiff, Nat.reduceAdd, Int.reduceLT, Int.reduceLE, Int.reduceNeg, Int.reduceEq, Nat.reduceLT, Nat.reduceSub, Nat.reduceMul, Nat.reduceBEq, Nat.reduceLeDiff, Int.reduceBEq, Int.reduceBNe, Int.reduceToNat, ne_eq, implies_true, bA]
              refine callI (Inner_spec (k.drop (2 + fi)) (by simp; omega)) ?_
              rw [wrK_yes (kids_drop hb (by omega))]
              simp (config := {maxSteps := 4000000}) only [U_law09_LeafHalves, reduceIte, reduceCtorEq, Nat.reduceEqDiff, Nat.reduceAdd, Int.reduceLT, Int.reduceLE, Int.reduceNeg, Int.reduceEq, Nat.reduceLT, Nat.reduceSub, Nat.reduceMul, Nat.reduceBEq, Nat.reduceLeDiff, Int.reduceBEq, Int.reduceBNe, Int.reduceToNat, ne_eq, implies_true, bA]
              refine callI awake09_spec ?_
              simp (config := {maxSteps := 4000000}) only [U_law09_LeafHalves, reduceIte, reduceCtorEq, Nat.reduceEqDiff, Nat.reduceAdd, Int.reduceLT, Int.reduceLE, Int.reduceNeg, Int.reduceEq, Nat.reduceLT, Nat.reduceSub, Nat.reduceMul, Nat.reduceBEq, Nat.reduceLeDiff, Int.reduceBEq, Int.reduceBNe, Int.reduceToNat, ne_eq, implies_true, bA]
            · have dk : decide ((3 : Int) < (k.length : Int)) = false := by simp only [decide_eq_false_iff_not]; omega
              simp (config := {maxSteps := 4000000}) only [U_law09_LeafHalves, dk, reduceIte, reduceCtorEq, Nat.reduceEqDiff, Nat.reduceAdd, Int.reduceLT, Int.reduceLE, Int.reduceNeg, Int.reduceEq, Nat.reduceLT, Nat.reduceSub, Nat.reduceMul, Nat.reduceBEq, Nat.reduceLeDiff, Int.reduceBEq, Int.reduceBNe, Int.reduceToNat, ne_eq, implies_true, bA]
              refine callI awake09_spec ?_
              simp (config := {maxSteps := 4000000}) only [U_law09_LeafHalves, reduceIte, reduceCtorEq, Nat.reduceEqDiff, Nat.reduceAdd, Int.reduceLT, Int.reduceLE, Int.reduceNeg, Int.reduceEq, Nat.reduceLT, Nat.reduceSub, Nat.reduceMul, Nat.reduceBEq, Nat.reduceLeDiff, Int.reduceBEq, Int.reduceBNe, Int.reduceToNat, ne_eq, implies_true, bA]
          | false =>
            rw [wrK_no hb]
            simp (config := {maxSteps := 4000000}) only [U_law09_LeafHalves, reduceIte, reduceCtorEq, Nat.reduceEqDiff, Nat.reduceAdd, Int.reduceLT, Int.reduceLE, Int.reduceNeg, Int.reduceEq, Nat.reduceLT, Nat.reduceSub, Nat.reduceMul, Nat.reduceBEq, Nat.reduceLeDiff, Int.reduceBEq, Int.reduceBNe, Int.reduceToNat, ne_eq, implies_true, bA]
            refine callI awake09_spec ?_
            simp (config := {maxSteps := 4000000}) only [U_law09_LeafHalves, reduceIte, reduceCtorEq, Nat.reduceEqDiff, Nat.reduceAdd, Int.reduceLT, Int.reduceLE, Int.reduceNeg, Int.reduceEq, Nat.reduceLT, Nat.reduceSub, Nat.reduceMul, Nat.reduceBEq, Nat.reduceLeDiff, Int.reduceBEq, Int.reduceBNe, Int.reduceToNat, ne_eq, implies_true, bA]
      | false =>
        rw [wrE_no ha]
        simp (config := {maxSteps := 4000000}) only [U_law09_LeafHalves, reduceIte, reduceCtorEq, Nat.reduceEqDiff, Nat.reduceAdd, Int.reduceLT, Int.reduceLE, Int.reduceNeg, Int.reduceEq, Nat.reduceLT, Nat.reduceSub, Nat.reduceMul, Nat.reduceBEq, Nat.reduceLeDiff, Int.reduceBEq, Int.reduceBNe, Int.reduceToNat, ne_eq, implies_true, bA]
        refine callI (Inner_spec k hk) ?_
        cases hb : kidsB k with
        | true =>
          rw [wrK_yes hb]
          have h8 := (kidsB_iff.1 hb).2.1
          by_cases h1 : 3 < k.length
          · have dk : decide ((3 : Int) < (k.length : Int)) = true := by simp only [decide_eq_true_eq]; omega
            obtain ⟨m, hm⟩ : ∃ m : Nat, (m : Int) = (k.length : Int) - 3 := ⟨k.length - 3, by omega⟩
            have hm0 : (m : Int) ≠ 0 := by omega
            have a1 := Int.tmod_lt_of_pos at0 (show (0 : Int) < m by omega)
            have a2 : -(m : Int) < at0.tmod m := by have := Int.lt_tmod_of_pos at0 (show (0 : Int) < m by omega); omega
            obtain ⟨fi, hfi, hfl⟩ : ∃ fi : Nat, (fi : Int) = (at0.tmod m + m).tmod m ∧ fi < m := by
              have hc := Int.tmod_nonneg (m : Int) (show (0 : Int) ≤ at0.tmod m + m by omega)
              have hd := Int.tmod_lt_of_pos (at0.tmod m + m) (show (0 : Int) < m by omega)
              exact ⟨((at0.tmod m + m).tmod m).toNat, by omega, by omega⟩
            have w1 : IntKind.i64.wrap ((k.length : Int) - 3) = (m : Int) := by rw [wrapI (by omega) (by omega)]; omega
            have w2 : IntKind.i64.wrap (at0.tmod m + (k.length : Int)) = at0.tmod m + (k.length : Int) := wrapI (by omega) (by omega)
            have w3 : IntKind.i64.wrap (at0.tmod m + (k.length : Int) - 3) = at0.tmod m + m := by rw [wrapI (by omega) (by omega)]; omega
            have w4 : IntKind.i64.wrap (2 + (fi : Int)) = ((2 + fi : Nat) : Int) := by rw [wrapI (by omega) (by omega)]; omega
            have hrk : rowsOk 2 (k.map rowK) = true := rowsOk_map rowK_len k
            have s1 : ∀ ob fb, sslV ob fb 2 (.slc (k.map rowK)) (some none) (some (some ((2 + fi : Nat) : Int))) = some (.slc ((k.take (2 + fi)).map rowK)) := fun ob fb => by rw [sslV_to hrk (by simp; omega), List.map_take]
            have s2 : ∀ ob fb, sslV ob fb 2 (.slc (k.map rowK)) (some (some ((2 + fi : Nat) : Int))) (some none) = some (.slc ((k.drop (2 + fi)).map rowK)) := fun ob fb => by rw [sslV_from hrk (by simp; omega), List.map_drop]
            simp (config := {maxSteps := 4000000}) only [U_law09_LeafHalves, dk, w1, binI_rem hm0, w2, w3, ← hfi, w4, s1, reduceIte, reduceCtorEq, Nat.reduceEqDiff, Nat.reduceAdd, Int.reduceLT, Int.reduceLE, Int.reduceNeg, Int.reduceEq, Nat.reduceLT, Nat.reduceSub, Nat.reduceMul, Nat.reduceBEq, Nat.reduceLeDiff, Int.reduceBEq, Int.reduceBNe, Int.reduceToNat, ne_eq, implies_true, bA]
            refine callI (Inner_spec (k.take (2 + fi)) (by simp; omega)) ?_
            rw [wrK_yes (kids_take hb (by omega) (by omega))]
            simp (config := {maxSteps := 4000000}) only [U_law09_LeafHalves, s2, reduceIte, reduceCtorEq, Nat.reduceEqDiff, Nat.reduceAdd, Int.reduceLT, Int.reduceLE, Int.reduceNeg, Int.reduceEq, Nat.reduceLT, Nat.reduceSub, Nat.reduceMul, Nat.reduceBEq, Nat.reduceLeDiff, Int.reduceBEq, Int.reduceBNe, Int.reduceToNat, ne_eq, implies_true, bA]
            refine callI (Inner_spec (k.drop (2 + fi)) (by simp; omega)) ?_
            rw [wrK_yes (kids_drop hb (by omega))]
            simp (config := {maxSteps := 4000000}) only [U_law09_LeafHalves, reduceIte, reduceCtorEq, Nat.reduceEqDiff, Nat.reduceAdd, Int.reduceLT, Int.reduceLE, Int.reduceNeg, Int.reduceEq, Nat.reduceLT, Nat.reduceSub, Nat.reduceMul, Nat.reduceBEq, Nat.reduceLeDiff, Int.reduceBEq, Int.reduceBNe, Int.reduceToNat, ne_eq, implies_true, bA]
            refine callI awake09_spec ?_
            simp (config := {maxSteps := 4000000}) only [U_law09_LeafHalves, reduceIte, reduceCtorEq, Nat.reduceEqDiff, Nat.reduceAdd, Int.reduceLT, Int.reduceLE, Int.reduceNeg, Int.reduceEq, Nat.reduceLT, Nat.reduceSub, Nat.reduceMul, Nat.reduceBEq, Nat.reduceLeDiff, Int.reduceBEq, Int.reduceBNe, Int.reduceToNat, ne_eq, implies_true, bA]
          · have dk : decide ((3 : Int) < (k.length : Int)) = false := by simp only [decide_eq_false_iff_not]; omega
            simp (config := {maxSteps := 4000000}) only [U_law09_LeafHalves, dk, reduceIte, reduceCtorEq, Nat.reduceEqDiff, Nat.reduceAdd, Int.reduceLT, Int.reduceLE, Int.reduceNeg, Int.reduceEq, Nat.reduceLT, Nat.reduceSub, Nat.reduceMul, Nat.reduceBEq, Nat.reduceLeDiff, Int.reduceBEq, Int.reduceBNe, Int.reduceToNat, ne_eq, implies_true, bA]
            refine callI awake09_spec ?_
            simp (config := {maxSteps := 4000000}) only [U_law09_LeafHalves, reduceIte, reduceCtorEq, Nat.reduceEqDiff, Nat.reduceAdd, Int.reduceLT, Int.reduceLE, Int.reduceNeg, Int.reduceEq, Nat.reduceLT, Nat.reduceSub, Nat.reduceMul, Nat.reduceBEq, Nat.reduceLeDiff, Int.reduceBEq, Int.reduceBNe, Int.reduceToNat, ne_eq, implies_true, bA]
        | false =>
          rw [wrK_no hb]
          simp (config := {maxSteps := 4000000}) only [U_law09_LeafHalves, reduceIte, reduceCtorEq, Nat.reduceEqDiff, Nat.reduceAdd, Int.reduceLT, Int.reduceLE, Int.reduceNeg, Int.reduceEq, Nat.reduceLT, Nat.reduceSub, Nat.reduceMul, Nat.reduceBEq, Nat.reduceLeDiff, Int.reduceBEq, Int.reduceBNe, Int.reduceToNat, ne_eq, implies_true, bA]
          refine callI awake09_spec ?_
          simp (config := {maxSteps := 4000000}) only [U_law09_LeafHalves, reduceIte, reduceCtorEq, Nat.reduceEqDiff, Nat.reduceAdd, Int.reduceLT, Int.reduceLE, Int.reduceNeg, Int.reduceEq, Nat.reduceLT, Nat.reduceSub, Nat.reduceMul, Nat.reduceBEq, Nat.reduceLeDiff, Int.reduceBEq, Int.reduceBNe, Int.reduceToNat, ne_eq, implies_true, bA]

abbrev shE : Sh := .st [.int .i64, .int .i64, .int .i64, .int .i64]
abbrev shK : Sh := .st [.int .i64, .int .i64]
theorem fit_ext {cs : List PV} (h : shE.fit cs) : ∃ e : Xt, cs = rowE e := by
  obtain ⟨_, _, rfl, ⟨x, rfl, _⟩, _, _, rfl, ⟨y, rfl, _⟩, _, _, rfl, ⟨z, rfl, _⟩, _, _, rfl, ⟨u, rfl, _⟩, rfl⟩ := h
  exact ⟨⟨x, y, z, u⟩, rfl⟩
theorem rows_ext : ∀ (rows : List (List PV)), (∀ r ∈ rows, shE.fit r) → ∃ l : List Xt, rows = l.map rowE
  | [], _ => ⟨[], rfl⟩
  | r :: rows, h => by
    obtain ⟨l, h1⟩ := rows_ext rows fun x hx => h x (List.mem_cons_of_mem _ hx)
    obtain ⟨b, h3⟩ := fit_ext (h r (by simp))
    exact ⟨b :: l, by rw [h1, h3]; rfl⟩
theorem fit_kid {cs : List PV} (h : shK.fit cs) : ∃ e : Kd, cs = rowK e := by
  obtain ⟨_, _, rfl, ⟨x, rfl, _⟩, _, _, rfl, ⟨y, rfl, _⟩, rfl⟩ := h
  exact ⟨⟨x, y⟩, rfl⟩
theorem rows_kid : ∀ (rows : List (List PV)), (∀ r ∈ rows, shK.fit r) → ∃ l : List Kd, rows = l.map rowK
  | [], _ => ⟨[], rfl⟩
  | r :: rows, h => by
    obtain ⟨l, h1⟩ := rows_kid rows fun x hx => h x (List.mem_cons_of_mem _ hx)
    obtain ⟨b, h3⟩ := fit_kid (h r (by simp))
    exact ⟨b :: l, by rw [h1, h3]; rfl⟩
theorem writes_fit (ps : List PV) (h : fitVs [.sl shE] ps) : PCall Try.prog 3 ps (.bool true) := by
  obtain ⟨_, _, rfl, ⟨rows, hr, hl, hf⟩, rfl⟩ := h
  cases hr
  obtain ⟨l, rfl⟩ := rows_ext rows hf
  exact writes_law l (by simpa [maxLen] using hl)
theorem inner_fit (ps : List PV) (h : fitVs [.sl shK] ps) : PCall Try.prog 5 ps (.bool true) := by
  obtain ⟨_, _, rfl, ⟨rows, hr, hl, hf⟩, rfl⟩ := h
  cases hr
  obtain ⟨l, rfl⟩ := rows_kid rows hf
  exact inner_law l (by simpa [maxLen] using hl)
theorem reads_fit (ps : List PV) (h : fitVs [.str] ps) : PCall Try.prog 4 ps (.bool true) := by
  obtain ⟨_, _, rfl, ⟨s, hs, hl⟩, rfl⟩ := h
  cases hs
  exact reads_law s (by simpa [maxLen] using hl)
theorem back_fit (ps : List PV) (h : fitVs [.sl shE, .sl shK, .str] ps) : PCall Try.prog 7 ps (.bool true) := by
  obtain ⟨_, _, rfl, ⟨rows, hr, hl, hf⟩, _, _, rfl, ⟨rows2, hr2, hl2, hf2⟩, _, _, rfl, ⟨s, hs, hl3⟩, rfl⟩ := h
  cases hr; cases hr2; cases hs
  obtain ⟨l, rfl⟩ := rows_ext rows hf
  obtain ⟨k, rfl⟩ := rows_kid rows2 hf2
  exact back_law l k s (by simpa [maxLen] using hl) (by simpa [maxLen] using hl2) (by simpa [maxLen] using hl3)
theorem halves_fit (ps : List PV) (h : fitVs [.sl shE, .sl shK, .int .i64] ps) : PCall Try.prog 6 ps (.bool true) := by
  obtain ⟨_, _, rfl, ⟨rows, hr, hl, hf⟩, _, _, rfl, ⟨rows2, hr2, hl2, hf2⟩, _, _, rfl, ⟨s, hs, _⟩, rfl⟩ := h
  cases hr; cases hr2; cases hs
  obtain ⟨l, rfl⟩ := rows_ext rows hf
  obtain ⟨k, rfl⟩ := rows_kid rows2 hf2
  exact halves_law l k s (by simpa [maxLen] using hl) (by simpa [maxLen] using hl2)
end Go.Proofs.Ytlkpceacmfndlaa.Aw
