/-
  The document's volume: creating, deleting, resizing.; The document's volume: resizing.; The document's volume: trimming.; The document's volume: zeroing.; The document's volume: writing.; The document's volume: reading.
-/
import Derived.Test.YthjnfjgejdlbfaaPRA
import Derived.Test.YthjnfjgejdlbfaaAwGive
import Derived.Test.YthjnfjgejdlbfaaPMC
set_option linter.all false
set_option linter.unusedSimpArgs false
set_option linter.unusedVariables false
namespace Go.Proofs.Ythjnfjgejdlbfaa.Aw
open Go.RowKit

theorem rcreate_spec (cap : Int) (A : List Spc) (hk : VolOk cap A) (id size : Int) : PCall Try.prog 32 [pvV cap A, .int .i64 id, .int .i64 size] (.tup [pvV cap (createV A id size).1, .int .i64 (createV A id size).2]) := by
  refine pcall_dr Try.func32 comp_ref14_Vol_Create ?_
  have hl := hk.len
  unfold createV
  by_cases c1 : id < 1
  · have d1 : decide (id < 1) = true := by simpa using c1
    rw [if_pos (.inl c1)]
    simp (config := {maxSteps := 4000000}) only [U_ref14_Vol_Create, d1, pvV, reduceIte, reduceCtorEq, Nat.reduceEqDiff, Nat.reduceAdd, Int.reduceLT, Int.reduceLE, Int.reduceNeg, Int.reduceEq, Nat.reduceLT, Nat.reduceSub, Nat.reduceMul, Nat.reduceBEq, Nat.reduceLeDiff, Int.reduceBEq, Int.reduceBNe, Int.reduceToNat, ne_eq, implies_true, bA]
  · have d1 : decide (id < 1) = false := by simpa using c1
    by_cases c2 : 65535 < id
    · have d2 : decide (65535 < id) = true := by simpa using c2
      rw [if_pos (.inr (.inl c2))]
      simp (config := {maxSteps := 4000000}) only [U_ref14_Vol_Create, d1, d2, pvV, reduceIte, reduceCtorEq, Nat.reduceEqDiff, Nat.reduceAdd, Int.reduceLT, Int.reduceLE, Int.reduceNeg, Int.reduceEq, Nat.reduceLT, Nat.reduceSub, Nat.reduceMul, Nat.reduceBEq, Nat.reduceLeDiff, Int.reduceBEq, Int.reduceBNe, Int.reduceToNat, ne_eq, implies_true, bA]
    · have d2 : decide (65535 < id) = false := by simpa using c2
      by_cases c3 : size < 0
      · have d3 : decide (size < 0) = true := by simpa using c3
        rw [if_pos (.inr (.inr (.inl c3)))]
        simp (config := {maxSteps := 4000000}) only [U_ref14_Vol_Create, d1, d2, d3, pvV, reduceIte, reduceCtorEq, Nat.reduceEqDiff, Nat.reduceAdd, Int.reduceLT, Int.reduceLE, Int.reduceNeg, Int.reduceEq, Nat.reduceLT, Nat.reduceSub, Nat.reduceMul, Nat.reduceBEq, Nat.reduceLeDiff, Int.reduceBEq, Int.reduceBNe, Int.reduceToNat, ne_eq, implies_true, bA]
      · have d3 : decide (size < 0) = false := by simpa using c3
        by_cases c4 : 16777216 < size
        · have d4 : decide (16777216 < size) = true := by simpa using c4
          rw [if_pos (.inr (.inr (.inr c4)))]
          simp (config := {maxSteps := 4000000}) only [U_ref14_Vol_Create, d1, d2, d3, d4, pvV, reduceIte, reduceCtorEq, Nat.reduceEqDiff, Nat.reduceAdd, Int.reduceLT, Int.reduceLE, Int.reduceNeg, Int.reduceEq, Nat.reduceLT, Nat.reduceSub, Nat.reduceMul, Nat.reduceBEq, Nat.reduceLeDiff, Int.reduceBEq, Int.reduceBNe, Int.reduceToNat, ne_eq, implies_true, bA]
        · have d4 : decide (16777216 < size) = false := by simpa using c4
          rw [if_neg (show ¬ (id < 1 ∨ 65535 < id ∨ size < 0 ∨ 16777216 < size) by omega)]
          have hf := find_spec cap A id (by omega)
          simp only [pvV] at hf
          simp (config := {maxSteps := 4000000}) only [U_ref14_Vol_Create, d1, d2, d3, d4, pvV, reduceIte, reduceCtorEq, Nat.reduceEqDiff, Nat.reduceAdd, Int.reduceLT, Int.reduceLE, Int.reduceNeg, Int.reduceEq, Nat.reduceLT, Nat.reduceSub, Nat.reduceMul, Nat.reduceBEq, Nat.reduceLeDiff, Int.reduceBEq, Int.reduceBNe, Int.reduceToNat, ne_eq, implies_true, bA]
          refine callI hf ?_
          cases hg : getG id A with
          | some a =>
            obtain ⟨i, hi, _⟩ := getG_idx hg
            have hfi : findI id A = (i : Int) := by rw [findI, hi]
            have d5 : decide (0 ≤ (i : Int)) = true := by simp
            simp (config := {maxSteps := 4000000}) only [U_ref14_Vol_Create, hfi, d5, reduceIte, reduceCtorEq, Nat.reduceEqDiff, Nat.reduceAdd, Int.reduceLT, Int.reduceLE, Int.reduceNeg, Int.reduceEq, Nat.reduceLT, Nat.reduceSub, Nat.reduceMul, Nat.reduceBEq, Nat.reduceLeDiff, Int.reduceBEq, Int.reduceBNe, Int.reduceToNat, ne_eq, implies_true, bA]
          | none =>
            have hfi : findI id A = -1 := by rw [findI, getG_idxN hg]
            by_cases c6 : 8 ≤ A.length
            · have d6 : decide ((8 : Int) ≤ (A.length : Int)) = true := by simp; omega
              simp only [c6, if_true]
              simp (config := {maxSteps := 4000000}) only [U_ref14_Vol_Create, hfi, d6, reduceIte, reduceCtorEq, Nat.reduceEqDiff, Nat.reduceAdd, Int.reduceLT, Int.reduceLE, Int.reduceNeg, Int.reduceEq, Nat.reduceLT, Nat.reduceSub, Nat.reduceMul, Nat.reduceBEq, Nat.reduceLeDiff, Int.reduceBEq, Int.reduceBNe, Int.reduceToNat, ne_eq, implies_true, bA]
            · have d6 : decide ((8 : Int) ≤ (A.length : Int)) = false := by simp; omega
              simp only [c6, if_false]
              have hd : delG id A = A := delG_id (getG_none hg)
              have hw := with_spec cap A ⟨id, size, []⟩ (by omega) (by simp only; rw [hd]; omega)
              simp only [putV, hd] at hw
              simp only [pvV, rowV, List.map_nil] at hw
              simp (config := {maxSteps := 4000000}) only [U_ref14_Vol_Create, hfi, d6, reduceIte, reduceCtorEq, Nat.reduceEqDiff, Nat.reduceAdd, Int.reduceLT, Int.reduceLE, Int.reduceNeg, Int.reduceEq, Nat.reduceLT, Nat.reduceSub, Nat.reduceMul, Nat.reduceBEq, Nat.reduceLeDiff, Int.reduceBEq, Int.reduceBNe, Int.reduceToNat, ne_eq, implies_true, bA]
              refine callI hw ?_
              simp (config := {maxSteps := 4000000}) only [U_ref14_Vol_Create, rowV, reduceIte, reduceCtorEq, Nat.reduceEqDiff, Nat.reduceAdd, Int.reduceLT, Int.reduceLE, Int.reduceNeg, Int.reduceEq, Nat.reduceLT, Nat.reduceSub, Nat.reduceMul, Nat.reduceBEq, Nat.reduceLeDiff, Int.reduceBEq, Int.reduceBNe, Int.reduceToNat, ne_eq, implies_true, bA]
theorem rdelete_spec (cap : Int) (A : List Spc) (hk : VolOk cap A) (id : Int) : PCall Try.prog 34 [pvV cap A, .int .i64 id] (.tup [pvV cap (deleteV A id).1, .int .i64 (deleteV A id).2]) := by
  refine pcall_dr Try.func34 comp_ref14_Vol_Delete ?_
  have hl := hk.len
  unfold deleteV
  have hf := find_spec cap A id (by omega)
  simp only [pvV] at hf
  simp (config := {maxSteps := 4000000}) only [U_ref14_Vol_Delete, pvV, reduceIte, reduceCtorEq, Nat.reduceEqDiff, Nat.reduceAdd, Int.reduceLT, Int.reduceLE, Int.reduceNeg, Int.reduceEq, Nat.reduceLT, Nat.reduceSub, Nat.reduceMul, Nat.reduceBEq, Nat.reduceLeDiff, Int.reduceBEq, Int.reduceBNe, Int.reduceToNat, ne_eq, implies_true, bA]
  refine callI hf ?_
  cases hg : getG id A with
  | some a =>
    obtain ⟨i, hi, hlt, hia⟩ := getG_idx hg
    have hfi : findI id A = (i : Int) := by rw [findI, hi]
    have d5 : decide ((i : Int) < 0) = false := by simp
    have hw := without_spec cap A id (by omega)
    simp only [pvV] at hw
    simp (config := {maxSteps := 4000000}) only [U_ref14_Vol_Delete, hfi, d5, reduceIte, reduceCtorEq, Nat.reduceEqDiff, Nat.reduceAdd, Int.reduceLT, Int.reduceLE, Int.reduceNeg, Int.reduceEq, Nat.reduceLT, Nat.reduceSub, Nat.reduceMul, Nat.reduceBEq, Nat.reduceLeDiff, Int.reduceBEq, Int.reduceBNe, Int.reduceToNat, ne_eq, implies_true, bA]
    refine callI hw ?_
    simp (config := {maxSteps := 4000000}) only [U_ref14_Vol_Delete, reduceIte, reduceCtorEq, Nat.reduceEqDiff, Nat.reduceAdd, Int.reduceLT, Int.reduceLE, Int.reduceNeg, Int.reduceEq, Nat.reduceLT, Nat.reduceSub, Nat.reduceMul, Nat.reduceBEq, Nat.reduceLeDiff, Int.reduceBEq, Int.reduceBNe, Int.reduceToNat, ne_eq, implies_true, bA]
  | none =>
    have hfi : findI id A = -1 := by rw [findI, getG_idxN hg]
    simp (config := {maxSteps := 4000000}) only [U_ref14_Vol_Delete, hfi, reduceIte, reduceCtorEq, Nat.reduceEqDiff, Nat.reduceAdd, Int.reduceLT, Int.reduceLE, Int.reduceNeg, Int.reduceEq, Nat.reduceLT, Nat.reduceSub, Nat.reduceMul, Nat.reduceBEq, Nat.reduceLeDiff, Int.reduceBEq, Int.reduceBNe, Int.reduceToNat, ne_eq, implies_true, bA]

theorem rresize_spec (cap : Int) (A : List Spc) (hk : VolOk cap A) (id size : Int) : PCall Try.prog 33 [pvV cap A, .int .i64 id, .int .i64 size] (.tup [pvV cap (resizeV A id size).1, .int .i64 (resizeV A id size).2]) := by
  refine pcall_dr Try.func33 comp_ref14_Vol_Resize ?_
  have hl := hk.len
  unfold resizeV
  by_cases c3 : size < 0
  · have d3 : decide (size < 0) = true := by simpa using c3
    rw [if_pos (.inl c3)]
    simp (config := {maxSteps := 4000000}) only [U_ref14_Vol_Resize, d3, pvV, reduceIte, reduceCtorEq, Nat.reduceEqDiff, Nat.reduceAdd, Int.reduceLT, Int.reduceLE, Int.reduceNeg, Int.reduceEq, Nat.reduceLT, Nat.reduceSub, Nat.reduceMul, Nat.reduceBEq, Nat.reduceLeDiff, Int.reduceBEq, Int.reduceBNe, Int.reduceToNat, ne_eq, implies_true, bA]
  · have d3 : decide (size < 0) = false := by simpa using c3
    by_cases c4 : 16777216 < size
    · have d4 : decide (16777216 < size) = true := by simpa using c4
      rw [if_pos (.inr c4)]
      simp (config := {maxSteps := 4000000}) only [U_ref14_Vol_Resize, d3, d4, pvV, reduceIte, reduceCtorEq, Nat.reduceEqDiff, Nat.reduceAdd, Int.reduceLT, Int.reduceLE, Int.reduceNeg, Int.reduceEq, Nat.reduceLT, Nat.reduceSub, Nat.reduceMul, Nat.reduceBEq, Nat.reduceLeDiff, Int.reduceBEq, Int.reduceBNe, Int.reduceToNat, ne_eq, implies_true, bA]
    · have d4 : decide (16777216 < size) = false := by simpa using c4
      rw [if_neg (by omega)]
      have hf := find_spec cap A id (by omega)
      simp only [pvV] at hf
      simp (config := {maxSteps := 4000000}) only [U_ref14_Vol_Resize, d3, d4, pvV, reduceIte, reduceCtorEq, Nat.reduceEqDiff, Nat.reduceAdd, Int.reduceLT, Int.reduceLE, Int.reduceNeg, Int.reduceEq, Nat.reduceLT, Nat.reduceSub, Nat.reduceMul, Nat.reduceBEq, Nat.reduceLeDiff, Int.reduceBEq, Int.reduceBNe, Int.reduceToNat, ne_eq, implies_true, bA]
      refine callI hf ?_
      cases hg : getG id A with
      | some a =>
        obtain ⟨i, hi, hlt, hia⟩ := getG_idx hg
        obtain ⟨ha, hid⟩ := getG_some hg
        simp only [key_spc] at hid
        have hfi : findI id A = (i : Int) := by rw [findI, hi]
        have d5 : decide ((i : Int) < 0) = false := by simp
        have isl := fun ob fb => islV_map (ob := ob) (fb := fb) (k := .i64) (g := rowV) hlt (rowV_len _)
        rw [hia] at isl
        have hu := usedV_mem hk.srt ha
        have hus := hk.use
        have hc1 := hk.c1
        have hc := rcut_spec a size 16777216 (by omega)
        have hdl := delG_len hk.srt ha
        simp only [key_spc] at hdl
        have hw := with_spec cap A ⟨a.id, size, cutS a.S size 16777216⟩ (by omega) (by simp only; omega)
        subst hid
        simp only [pvV, rowV] at hw hc
        simp (config := {maxSteps := 4000000}) only [U_ref14_Vol_Resize, hfi, d5, isl, rowV, reduceIte, reduceCtorEq, Nat.reduceEqDiff, Nat.reduceAdd, Int.reduceLT, Int.reduceLE, Int.reduceNeg, Int.reduceEq, Nat.reduceLT, Nat.reduceSub, Nat.reduceMul, Nat.reduceBEq, Nat.reduceLeDiff, Int.reduceBEq, Int.reduceBNe, Int.reduceToNat, ne_eq, implies_true, bA]
        refine callI hc ?_
        simp (config := {maxSteps := 4000000}) only [U_ref14_Vol_Resize, reduceIte, reduceCtorEq, Nat.reduceEqDiff, Nat.reduceAdd, Int.reduceLT, Int.reduceLE, Int.reduceNeg, Int.reduceEq, Nat.reduceLT, Nat.reduceSub, Nat.reduceMul, Nat.reduceBEq, Nat.reduceLeDiff, Int.reduceBEq, Int.reduceBNe, Int.reduceToNat, ne_eq, implies_true, bA]
        refine callI hw ?_
        simp (config := {maxSteps := 4000000}) only [U_ref14_Vol_Resize, reduceIte, reduceCtorEq, Nat.reduceEqDiff, Nat.reduceAdd, Int.reduceLT, Int.reduceLE, Int.reduceNeg, Int.reduceEq, Nat.reduceLT, Nat.reduceSub, Nat.reduceMul, Nat.reduceBEq, Nat.reduceLeDiff, Int.reduceBEq, Int.reduceBNe, Int.reduceToNat, ne_eq, implies_true, bA]
      | none =>
        have hfi : findI id A = -1 := by rw [findI, getG_idxN hg]
        simp (config := {maxSteps := 4000000}) only [U_ref14_Vol_Resize, hfi, reduceIte, reduceCtorEq, Nat.reduceEqDiff, Nat.reduceAdd, Int.reduceLT, Int.reduceLE, Int.reduceNeg, Int.reduceEq, Nat.reduceLT, Nat.reduceSub, Nat.reduceMul, Nat.reduceBEq, Nat.reduceLeDiff, Int.reduceBEq, Int.reduceBNe, Int.reduceToNat, ne_eq, implies_true, bA]

theorem neqF {a : Int} (h : a ≠ 0) : (a != 0) = true := by simpa using h
theorem neqT : ((0 : Int) != 0) = false := by decide
theorem rtrim_spec (cap : Int) (A : List Spc) (hk : VolOk cap A) (id fr n : Int) : PCall Try.prog 37 [pvV cap A, .int .i64 id, .int .i64 fr, .int .i64 n] (.tup [pvV cap (trimV A id fr n).1, .int .i64 (trimV A id fr n).2]) := by
  refine pcall_dr Try.func37 comp_ref14_Vol_Trim ?_
  have hl := hk.len
  unfold trimV
  have hw := rwithin_spec cap A hk id fr n true
  simp only [pvV] at hw
  simp (config := {maxSteps := 4000000}) only [U_ref14_Vol_Trim, pvV, reduceIte, reduceCtorEq, Nat.reduceEqDiff, Nat.reduceAdd, Int.reduceLT, Int.reduceLE, Int.reduceNeg, Int.reduceEq, Nat.reduceLT, Nat.reduceSub, Nat.reduceMul, Nat.reduceBEq, Nat.reduceLeDiff, Int.reduceBEq, Int.reduceBNe, Int.reduceToNat, ne_eq, implies_true, bA]
  refine callI hw ?_
  by_cases c : withinV A id fr n true ≠ 0
  · have d := neqF c
    rw [if_pos c]
    simp (config := {maxSteps := 4000000}) only [U_ref14_Vol_Trim, d, reduceIte, reduceCtorEq, Nat.reduceEqDiff, Nat.reduceAdd, Int.reduceLT, Int.reduceLE, Int.reduceNeg, Int.reduceEq, Nat.reduceLT, Nat.reduceSub, Nat.reduceMul, Nat.reduceBEq, Nat.reduceLeDiff, Int.reduceBEq, Int.reduceBNe, Int.reduceToNat, ne_eq, implies_true, bA]
  · rw [if_neg c]
    have c0 := Decidable.not_not.1 c
    obtain ⟨a, hg, _, h1, h2, h3⟩ := within_ok c0
    rw [c0]
    obtain ⟨i, hi, hlt, hia⟩ := getG_idx hg
    obtain ⟨ha, hid⟩ := getG_some hg
    simp only [key_spc] at hid
    have hfi : findI id A = (i : Int) := by rw [findI, hi]
    have isl := fun ob fb => islV_map (ob := ob) (fb := fb) (k := .i64) (g := rowV) hlt (rowV_len _)
    rw [hia] at isl
    have hu := usedV_mem hk.srt ha
    have hus := hk.use
    have hc1 := hk.c1
    have hsz := hk.szs a ha
    have e1 : IntKind.i64.wrap (fr + n) = fr + n := wrapI (by omega) (by omega)
    have hf := find_spec cap A id (by omega)
    rw [hfi] at hf
    have hc := rcut_spec a fr (fr + n) (by omega)
    have hdl := delG_len hk.srt ha
    simp only [key_spc] at hdl
    have hp := with_spec cap A ⟨a.id, a.size, cutS a.S fr (fr + n)⟩ (by omega) (by simp only; omega)
    subst hid
    simp only [hg]
    simp only [pvV, rowV] at hp hc hf
    simp (config := {maxSteps := 4000000}) only [U_ref14_Vol_Trim, neqT, reduceIte, reduceCtorEq, Nat.reduceEqDiff, Nat.reduceAdd, Int.reduceLT, Int.reduceLE, Int.reduceNeg, Int.reduceEq, Nat.reduceLT, Nat.reduceSub, Nat.reduceMul, Nat.reduceBEq, Nat.reduceLeDiff, Int.reduceBEq, Int.reduceBNe, Int.reduceToNat, ne_eq, implies_true, bA]
    refine callI hf ?_
    simp (config := {maxSteps := 4000000}) only [U_ref14_Vol_Trim, isl, rowV, e1, reduceIte, reduceCtorEq, Nat.reduceEqDiff, Nat.reduceAdd, Int.reduceLT, Int.reduceLE, Int.reduceNeg, Int.reduceEq, Nat.reduceLT, Nat.reduceSub, Nat.reduceMul, Nat.reduceBEq, Nat.reduceLeDiff, Int.reduceBEq, Int.reduceBNe, Int.reduceToNat, ne_eq, implies_true, bA]
    refine callI hc ?_
    refine callI hp ?_
    simp (config := {maxSteps := 4000000}) only [U_ref14_Vol_Trim, reduceIte, reduceCtorEq, Nat.reduceEqDiff, Nat.reduceAdd, Int.reduceLT, Int.reduceLE, Int.reduceNeg, Int.reduceEq, Nat.reduceLT, Nat.reduceSub, Nat.reduceMul, Nat.reduceBEq, Nat.reduceLeDiff, Int.reduceBEq, Int.reduceBNe, Int.reduceToNat, ne_eq, implies_true, bA]

theorem rzero_spec (cap : Int) (A : List Spc) (hk : VolOk cap A) (id fr n : Int) : PCall Try.prog 36 [pvV cap A, .int .i64 id, .int .i64 fr, .int .i64 n] (.tup [pvV cap (zeroV cap A id fr n).1, .int .i64 (zeroV cap A id fr n).2]) := by
  refine pcall_dr Try.func36 comp_ref14_Vol_Zero ?_
  have hl := hk.len
  unfold zeroV
  have hw := rwithin_spec cap A hk id fr n true
  simp only [pvV] at hw
  simp (config := {maxSteps := 4000000}) only [U_ref14_Vol_Zero, pvV, reduceIte, reduceCtorEq, Nat.reduceEqDiff, Nat.reduceAdd, Int.reduceLT, Int.reduceLE, Int.reduceNeg, Int.reduceEq, Nat.reduceLT, Nat.reduceSub, Nat.reduceMul, Nat.reduceBEq, Nat.reduceLeDiff, Int.reduceBEq, Int.reduceBNe, Int.reduceToNat, ne_eq, implies_true, bA]
  refine callI hw ?_
  by_cases c : withinV A id fr n true ≠ 0
  · have d := neqF c
    rw [if_pos c]
    simp (config := {maxSteps := 4000000}) only [U_ref14_Vol_Zero, d, reduceIte, reduceCtorEq, Nat.reduceEqDiff, Nat.reduceAdd, Int.reduceLT, Int.reduceLE, Int.reduceNeg, Int.reduceEq, Nat.reduceLT, Nat.reduceSub, Nat.reduceMul, Nat.reduceBEq, Nat.reduceLeDiff, Int.reduceBEq, Int.reduceBNe, Int.reduceToNat, ne_eq, implies_true, bA]
  · rw [if_neg c]
    have c0 := Decidable.not_not.1 c
    obtain ⟨a, hg, _, h1, h2, h3⟩ := within_ok c0
    rw [c0]
    obtain ⟨i, hi, hlt, hia⟩ := getG_idx hg
    obtain ⟨ha, hid⟩ := getG_some hg
    simp only [key_spc] at hid
    have hfi : findI id A = (i : Int) := by rw [findI, hi]
    have isl := fun ob fb => islV_map (ob := ob) (fb := fb) (k := .i64) (g := rowV) hlt (rowV_len _)
    rw [hia] at isl
    have hu := usedV_mem hk.srt ha
    have hus := hk.use
    have hc1 := hk.c1
    have hsz := hk.szs a ha
    have e1 : IntKind.i64.wrap (fr + n) = fr + n := wrapI (by omega) (by omega)
    have hf := find_spec cap A id (by omega)
    rw [hfi] at hf
    have hin := rin_spec a fr (fr + n) (by omega)
    have hlf := rleft_spec cap A hk
    simp only [pvV, rowV] at hf hin hlf
    simp (config := {maxSteps := 4000000}) only [U_ref14_Vol_Zero, neqT, reduceIte, reduceCtorEq, Nat.reduceEqDiff, Nat.reduceAdd, Int.reduceLT, Int.reduceLE, Int.reduceNeg, Int.reduceEq, Nat.reduceLT, Nat.reduceSub, Nat.reduceMul, Nat.reduceBEq, Nat.reduceLeDiff, Int.reduceBEq, Int.reduceBNe, Int.reduceToNat, ne_eq, implies_true, bA]
    refine callI hf ?_
    simp (config := {maxSteps := 4000000}) only [U_ref14_Vol_Zero, isl, rowV, e1, reduceIte, reduceCtorEq, Nat.reduceEqDiff, Nat.reduceAdd, Int.reduceLT, Int.reduceLE, Int.reduceNeg, Int.reduceEq, Nat.reduceLT, Nat.reduceSub, Nat.reduceMul, Nat.reduceBEq, Nat.reduceLeDiff, Int.reduceBEq, Int.reduceBNe, Int.reduceToNat, ne_eq, implies_true, bA]
    refine callI hin ?_
    have hcl := cutS_len a.S fr (fr + n)
    have e2 : IntKind.i64.wrap (n - inS a.S fr (fr + n)) = n - inS a.S fr (fr + n) := by simp only [inS]; exact wrapI (by omega) (by omega)
    simp (config := {maxSteps := 4000000}) only [U_ref14_Vol_Zero, e2, reduceIte, reduceCtorEq, Nat.reduceEqDiff, Nat.reduceAdd, Int.reduceLT, Int.reduceLE, Int.reduceNeg, Int.reduceEq, Nat.reduceLT, Nat.reduceSub, Nat.reduceMul, Nat.reduceBEq, Nat.reduceLeDiff, Int.reduceBEq, Int.reduceBNe, Int.reduceToNat, ne_eq, implies_true, bA]
    refine callI hlf ?_
    have hlen : ((List.replicate n.toNat blankB).length : Int) = n := by rw [List.length_replicate]; omega
    unfold layV
    rw [hg]
    simp only [hlen]
    by_cases c5 : cap - usedV A < n - inS a.S fr (fr + n)
    · have d5 : decide (cap - usedV A < n - inS a.S fr (fr + n)) = true := by simpa using c5
      rw [if_pos c5]
      simp (config := {maxSteps := 4000000}) only [U_ref14_Vol_Zero, d5, reduceIte, reduceCtorEq, Nat.reduceEqDiff, Nat.reduceAdd, Int.reduceLT, Int.reduceLE, Int.reduceNeg, Int.reduceEq, Nat.reduceLT, Nat.reduceSub, Nat.reduceMul, Nat.reduceBEq, Nat.reduceLeDiff, Int.reduceBEq, Int.reduceBNe, Int.reduceToNat, ne_eq, implies_true, bA]
    · have d5 : decide (cap - usedV A < n - inS a.S fr (fr + n)) = false := by simpa using c5
      rw [if_neg c5]
      simp (config := {maxSteps := 4000000}) only [U_ref14_Vol_Zero, d5, reduceIte, reduceCtorEq, Nat.reduceEqDiff, Nat.reduceAdd, Int.reduceLT, Int.reduceLE, Int.reduceNeg, Int.reduceEq, Nat.reduceLT, Nat.reduceSub, Nat.reduceMul, Nat.reduceBEq, Nat.reduceLeDiff, Int.reduceBEq, Int.reduceBNe, Int.reduceToNat, ne_eq, implies_true, bA]
      obtain ⟨N, rfl⟩ : ∃ N : Nat, n = (N : Int) := ⟨n.toNat, by omega⟩
      have hN : N ≤ 1000 := by simp only [inS] at c5; omega
      refine loopF (fun i : Nat => ⟨ofL [(2, .int .i64 fr), (3, .int .i64 (N : Int)), (4, .ref 0 0), (8, .ref 1 0), (11, .ref 2 0), (12, .osl 3 0 i), (13, .int .i64 (i : Int))], [.box [.int .i64 cap, .slc (A.map rowV)], .box [.int .i64 0, .slc []], .box (rowV a), .list 1 ((List.replicate i blankB).map rowD)]⟩) (fun i => i ≤ N) (fun i => N - i) 0 ?_ (Nat.zero_le _) ?_
      · simp (config := {maxSteps := 4000000}) only [U_ref14_Vol_Zero, rowV, reduceIte, reduceCtorEq, Nat.reduceEqDiff, Nat.reduceAdd, Int.reduceLT, Int.reduceLE, Int.reduceNeg, Int.reduceEq, Nat.reduceLT, Nat.reduceSub, Nat.reduceMul, Nat.reduceBEq, Nat.reduceLeDiff, Int.reduceBEq, Int.reduceBNe, Int.reduceToNat, ne_eq, implies_true, bA]
        all_goals rfl
      · intro k hk2
        have hrl : (List.replicate k blankB).length = k := by simp
        by_cases h : k < N
        · have d : decide ((k : Int) < (N : Int)) = true := by simp; omega
          have e4 : IntKind.i64.wrap ((k : Int) + 1) = ((k + 1 : Nat) : Int) := by rw [wrapI (by omega) (by omega)]; omega
          have ap : appO [.box [.int .i64 cap, .slc (A.map rowV)], .box [.int .i64 0, .slc []], .box [.int .i64 a.id, .int .i64 a.size, .slc (a.S.map rowS)], .list 1 ((List.replicate k blankB).map rowD)] [] none 1 (.osl 3 0 k) (some [[.str blankB]]) = some (.osl 3 0 (k + 1), [.box [.int .i64 cap, .slc (A.map rowV)], .box [.int .i64 0, .slc []], .box [.int .i64 a.id, .int .i64 a.size, .slc (a.S.map rowS)], .list 1 ((List.replicate (k + 1) blankB).map rowD)]) := by
            have := app_map (ob := [.box [.int .i64 cap, .slc (A.map rowV)], .box [.int .i64 0, .slc []], .box [.int .i64 a.id, .int .i64 a.size, .slc (a.S.map rowS)], .list 1 ((List.replicate k blankB).map rowD)]) (fb := []) (nw := none) (o := 3) (n := k) (e := 1) (g := rowD) (l := List.replicate k blankB) (m := [blankB]) rfl rfl hrl.symm (by rw [hrl]; omega) (by simp) rowD_len
            rw [show List.replicate (k + 1) blankB = List.replicate k blankB ++ [blankB] from List.replicate_succ']
            exact this
          simp (config := {maxSteps := 4000000}) only [U_ref14_Vol_Zero, d, reduceIte, reduceCtorEq, Nat.reduceEqDiff, Nat.reduceAdd, Int.reduceLT, Int.reduceLE, Int.reduceNeg, Int.reduceEq, Nat.reduceLT, Nat.reduceSub, Nat.reduceMul, Nat.reduceBEq, Nat.reduceLeDiff, Int.reduceBEq, Int.reduceBNe, Int.reduceToNat, ne_eq, implies_true, bA]
          refine callI rblank_spec ?_
          simp (config := {maxSteps := 4000000}) only [U_ref14_Vol_Zero, rowV, ap, e4, reduceIte, reduceCtorEq, Nat.reduceEqDiff, Nat.reduceAdd, Int.reduceLT, Int.reduceLE, Int.reduceNeg, Int.reduceEq, Nat.reduceLT, Nat.reduceSub, Nat.reduceMul, Nat.reduceBEq, Nat.reduceLeDiff, Int.reduceBEq, Int.reduceBNe, Int.reduceToNat, ne_eq, implies_true, bA]
          exact ⟨k + 1, rfl, h, by omega⟩
        · obtain rfl : k = N := by omega
          have d : decide ((k : Int) < (k : Int)) = false := by simp
          have hr : rowsO (some (AObj.list 1 ((List.replicate k blankB).map rowD))) 0 k = some ((List.replicate k blankB).map rowD) := rowsO_all (by simp)
          have hly := rlay_spec a fr (List.replicate k blankB) (hk.sec a ha).srt (by omega) (by rw [hrl]; omega) h2 (by omega)
          have hpl := layS_len a.S fr (List.replicate k blankB)
          have hdl := delG_len hk.srt ha
          simp only [key_spc] at hdl
          have hp := with_spec cap A ⟨a.id, a.size, layS a.S fr (List.replicate k blankB)⟩ (by omega) (by simp only; omega)
          simp only [Int.toNat_natCast]
          subst hid
          simp only [pvV, rowV] at hp hly
          have hg2 : ∀ ob, ob[3]? = some (AObj.list 1 ((List.replicate k blankB).map rowD)) → ICall Try.prog 62 [.agg [.int .i64 a.id, .int .i64 a.size, .slc (a.S.map rowS)], .int .i64 fr, .osl 3 0 k] ob fun r' ob' => r' = .agg [.int .i64 a.id, .int .i64 a.size, .slc ((layS a.S fr (List.replicate k blankB)).map rowS)] ∧ ob' = ob.set 3 .junk :=
            fun ob ho => PCall.give (pre := [.agg [.int .i64 a.id, .int .i64 a.size, .slc (a.S.map rowS)], .int .i64 fr]) (post := []) hly ho (by simp) (by omega) rfl rfl (fun _ _ _ _ h => h)
          simp (config := {maxSteps := 4000000}) only [U_ref14_Vol_Zero, d, rowV, reduceIte, reduceCtorEq, Nat.reduceEqDiff, Nat.reduceAdd, Int.reduceLT, Int.reduceLE, Int.reduceNeg, Int.reduceEq, Nat.reduceLT, Nat.reduceSub, Nat.reduceMul, Nat.reduceBEq, Nat.reduceLeDiff, Int.reduceBEq, Int.reduceBNe, Int.reduceToNat, ne_eq, implies_true, bA]
          refine ⟨callM (hg2 _ rfl) ?_, callM (hg2 _ rfl) ?_⟩
          all_goals
            rintro r ob' ⟨rfl, rfl⟩
            simp (config := {maxSteps := 4000000}) only [U_ref14_Vol_Zero, reduceIte, reduceCtorEq, Nat.reduceEqDiff, Nat.reduceAdd, Int.reduceLT, Int.reduceLE, Int.reduceNeg, Int.reduceEq, Nat.reduceLT, Nat.reduceSub, Nat.reduceMul, Nat.reduceBEq, Nat.reduceLeDiff, Int.reduceBEq, Int.reduceBNe, Int.reduceToNat, ne_eq, implies_true, bA]
            refine callI hp ?_
            simp (config := {maxSteps := 4000000}) only [U_ref14_Vol_Zero, reduceIte, reduceCtorEq, Nat.reduceEqDiff, Nat.reduceAdd, Int.reduceLT, Int.reduceLE, Int.reduceNeg, Int.reduceEq, Nat.reduceLT, Nat.reduceSub, Nat.reduceMul, Nat.reduceBEq, Nat.reduceLeDiff, Int.reduceBEq, Int.reduceBNe, Int.reduceToNat, ne_eq, implies_true, bA]

theorem rwrite_spec (cap : Int) (A : List Spc) (hk : VolOk cap A) (id fr : Int) (D : List UInt8) (hD : D.length ≤ 1000) : PCall Try.prog 35 [pvV cap A, .int .i64 id, .int .i64 fr, .str D] (.tup [pvV cap (writeV cap A id fr D).1, .int .i64 (writeV cap A id fr D).2]) := by
  refine pcall_dr Try.func35 comp_ref14_Vol_Write ?_
  have hl := hk.len
  unfold writeV
  obtain ⟨N, hN⟩ : ∃ N, D.length / 32 = N := ⟨_, rfl⟩
  have t1 := tdivN D.length 32
  simp only [Int.cast_ofNat_Int] at t1
  rw [hN] at t1 ⊢
  have w0 : IntKind.i64.wrap (N : Int) = (N : Int) := wrapI (by omega) (by omega)
  have w1 : IntKind.i64.wrap ((N : Int) * 32) = ((N * 32 : Nat) : Int) := by rw [wrapI (by omega) (by omega)]; omega
  by_cases cm : ¬ D.length % 32 = 0
  · have nm : (((N * 32 : Nat) : Int) == (D.length : Int)) = false := by simp only [beq_eq_false_iff_ne, ne_eq]; omega
    have hw := rwithin_spec cap A hk id fr (N : Int) false
    have em : (decide (D.length % 32 = 0) && decide (N ≤ 8)) = false := by simp [cm]
    have c : withinV A id fr (N : Int) false ≠ 0 := by
      unfold withinV
      cases getG id A with
      | none => simp
      | some s => simp
    have d := neqF c
    simp only [pvV] at hw
    rw [em, if_pos c]
    simp (config := {maxSteps := 4000000}) only [U_ref14_Vol_Write, pvV, t1, w0, w1, nm, reduceIte, reduceCtorEq, Nat.reduceEqDiff, Nat.reduceAdd, Int.reduceLT, Int.reduceLE, Int.reduceNeg, Int.reduceEq, Nat.reduceLT, Nat.reduceSub, Nat.reduceMul, Nat.reduceBEq, Nat.reduceLeDiff, Int.reduceBEq, Int.reduceBNe, Int.reduceToNat, ne_eq, implies_true, bA]
    refine callI hw ?_
    simp (config := {maxSteps := 4000000}) only [U_ref14_Vol_Write, d, reduceIte, reduceCtorEq, Nat.reduceEqDiff, Nat.reduceAdd, Int.reduceLT, Int.reduceLE, Int.reduceNeg, Int.reduceEq, Nat.reduceLT, Nat.reduceSub, Nat.reduceMul, Nat.reduceBEq, Nat.reduceLeDiff, Int.reduceBEq, Int.reduceBNe, Int.reduceToNat, ne_eq, implies_true, bA]
  replace cm := Decidable.not_not.1 cm
  have nm : (((N * 32 : Nat) : Int) == (D.length : Int)) = true := by simp only [beq_iff_eq]; omega
  have em : (decide (D.length % 32 = 0) && decide (N ≤ 8)) = decide ((N : Int) ≤ 8) := by simp [cm]; omega
  have hw := rwithin_spec cap A hk id fr (N : Int) (decide ((N : Int) ≤ 8))
  simp only [pvV] at hw
  rw [em]
  simp (config := {maxSteps := 4000000}) only [U_ref14_Vol_Write, pvV, t1, w0, w1, nm, reduceIte, reduceCtorEq, Nat.reduceEqDiff, Nat.reduceAdd, Int.reduceLT, Int.reduceLE, Int.reduceNeg, Int.reduceEq, Nat.reduceLT, Nat.reduceSub, Nat.reduceMul, Nat.reduceBEq, Nat.reduceLeDiff, Int.reduceBEq, Int.reduceBNe, Int.reduceToNat, ne_eq, implies_true, bA]
  refine callI hw ?_
  by_cases c : withinV A id fr (N : Int) (decide ((N : Int) ≤ 8)) ≠ 0
  · have d := neqF c
    rw [if_pos c]
    simp (config := {maxSteps := 4000000}) only [U_ref14_Vol_Write, d, reduceIte, reduceCtorEq, Nat.reduceEqDiff, Nat.reduceAdd, Int.reduceLT, Int.reduceLE, Int.reduceNeg, Int.reduceEq, Nat.reduceLT, Nat.reduceSub, Nat.reduceMul, Nat.reduceBEq, Nat.reduceLeDiff, Int.reduceBEq, Int.reduceBNe, Int.reduceToNat, ne_eq, implies_true, bA]
  rw [if_neg c]
  have c0 := Decidable.not_not.1 c
  obtain ⟨a, hg, hm, h1, h2, h3⟩ := within_ok c0
  rw [c0]
  obtain ⟨i, hi, hlt, hia⟩ := getG_idx hg
  obtain ⟨ha, hid⟩ := getG_some hg
  simp only [key_spc] at hid
  have hfi : findI id A = (i : Int) := by rw [findI, hi]
  have isl := fun ob fb => islV_map (ob := ob) (fb := fb) (k := .i64) (g := rowV) hlt (rowV_len _)
  rw [hia] at isl
  have hu := usedV_mem hk.srt ha
  have hus := hk.use
  have hc1 := hk.c1
  have hsz := hk.szs a ha
  have e1 : IntKind.i64.wrap (fr + (N : Int)) = fr + (N : Int) := wrapI (by omega) (by omega)
  have hf := find_spec cap A id (by omega)
  rw [hfi] at hf
  have hin := rin_spec a fr (fr + (N : Int)) (by omega)
  have hlf := rleft_spec cap A hk
  simp only [pvV, rowV] at hf hin hlf
  simp (config := {maxSteps := 4000000}) only [U_ref14_Vol_Write, neqT, reduceIte, reduceCtorEq, Nat.reduceEqDiff, Nat.reduceAdd, Int.reduceLT, Int.reduceLE, Int.reduceNeg, Int.reduceEq, Nat.reduceLT, Nat.reduceSub, Nat.reduceMul, Nat.reduceBEq, Nat.reduceLeDiff, Int.reduceBEq, Int.reduceBNe, Int.reduceToNat, ne_eq, implies_true, bA]
  refine callI hf ?_
  simp (config := {maxSteps := 4000000}) only [U_ref14_Vol_Write, isl, rowV, e1, reduceIte, reduceCtorEq, Nat.reduceEqDiff, Nat.reduceAdd, Int.reduceLT, Int.reduceLE, Int.reduceNeg, Int.reduceEq, Nat.reduceLT, Nat.reduceSub, Nat.reduceMul, Nat.reduceBEq, Nat.reduceLeDiff, Int.reduceBEq, Int.reduceBNe, Int.reduceToNat, ne_eq, implies_true, bA]
  refine callI hin ?_
  have hcl := cutS_len a.S fr (fr + (N : Int))
  have e2 : IntKind.i64.wrap ((N : Int) - inS a.S fr (fr + (N : Int))) = (N : Int) - inS a.S fr (fr + (N : Int)) := by simp only [inS]; exact wrapI (by omega) (by omega)
  simp (config := {maxSteps := 4000000}) only [U_ref14_Vol_Write, e2, reduceIte, reduceCtorEq, Nat.reduceEqDiff, Nat.reduceAdd, Int.reduceLT, Int.reduceLE, Int.reduceNeg, Int.reduceEq, Nat.reduceLT, Nat.reduceSub, Nat.reduceMul, Nat.reduceBEq, Nat.reduceLeDiff, Int.reduceBEq, Int.reduceBNe, Int.reduceToNat, ne_eq, implies_true, bA]
  refine callI hlf ?_
  have hpl : (pieces D N).length = N := pieces_len D N
  unfold layV
  rw [hg]
  simp only [hpl]
  by_cases c5 : cap - usedV A < (N : Int) - inS a.S fr (fr + (N : Int))
  · have d5 : decide (cap - usedV A < (N : Int) - inS a.S fr (fr + (N : Int))) = true := by simpa using c5
    rw [if_pos c5]
    simp (config := {maxSteps := 4000000}) only [U_ref14_Vol_Write, d5, reduceIte, reduceCtorEq, Nat.reduceEqDiff, Nat.reduceAdd, Int.reduceLT, Int.reduceLE, Int.reduceNeg, Int.reduceEq, Nat.reduceLT, Nat.reduceSub, Nat.reduceMul, Nat.reduceBEq, Nat.reduceLeDiff, Int.reduceBEq, Int.reduceBNe, Int.reduceToNat, ne_eq, implies_true, bA]
  · have d5 : decide (cap - usedV A < (N : Int) - inS a.S fr (fr + (N : Int))) = false := by simpa using c5
    rw [if_neg c5]
    simp (config := {maxSteps := 4000000}) only [U_ref14_Vol_Write, d5, reduceIte, reduceCtorEq, Nat.reduceEqDiff, Nat.reduceAdd, Int.reduceLT, Int.reduceLE, Int.reduceNeg, Int.reduceEq, Nat.reduceLT, Nat.reduceSub, Nat.reduceMul, Nat.reduceBEq, Nat.reduceLeDiff, Int.reduceBEq, Int.reduceBNe, Int.reduceToNat, ne_eq, implies_true, bA]
    refine loopF (fun i : Nat => ⟨ofL [(2, .int .i64 fr), (3, .str D), (4, .ref 0 0), (8, .ref 1 0), (10, .int .i64 (N : Int)), (12, .ref 2 0), (13, .osl 3 0 i), (14, .int .i64 (i : Int))], [.box [.int .i64 cap, .slc (A.map rowV)], .box [.int .i64 0, .slc []], .box (rowV a), .list 1 (((pieces D N).take i).map rowD)]⟩) (fun i => i ≤ N) (fun i => N - i) 0 ?_ (Nat.zero_le _) ?_
    · simp (config := {maxSteps := 4000000}) only [U_ref14_Vol_Write, rowV, reduceIte, reduceCtorEq, Nat.reduceEqDiff, Nat.reduceAdd, Int.reduceLT, Int.reduceLE, Int.reduceNeg, Int.reduceEq, Nat.reduceLT, Nat.reduceSub, Nat.reduceMul, Nat.reduceBEq, Nat.reduceLeDiff, Int.reduceBEq, Int.reduceBNe, Int.reduceToNat, ne_eq, implies_true, bA]
      all_goals rfl
    · intro k hk2
      have hrl : ((pieces D N).take k).length = k := by simp; omega
      by_cases h : k < N
      · have d : decide ((k : Int) < (N : Int)) = true := by simp; omega
        have e4 : IntKind.i64.wrap ((k : Int) + 1) = ((k + 1 : Nat) : Int) := by rw [wrapI (by omega) (by omega)]; omega
        have e5 : IntKind.i64.wrap (32 * (k : Int)) = ((32 * k : Nat) : Int) := by rw [wrapI (by omega) (by omega)]; omega
        have e6 : IntKind.i64.wrap (((32 * k : Nat) : Int) + 32) = ((32 * k + 32 : Nat) : Int) := by rw [wrapI (by omega) (by omega)]; omega
        have hkp : k < (pieces D N).length := by omega
        have hss : sstrV (.str D) (some (some ((32 * k : Nat) : Int))) (some (some ((32 * k + 32 : Nat) : Int))) = some (.str (pieces D N)[k]) := by
          rw [sstrV_both (by omega) (by omega)]
          have := pieces_get (d := D) h
          rw [List.getElem?_eq_getElem hkp] at this
          rw [Option.some.inj this, List.drop_take, show 32 * k + 32 - 32 * k = 32 by omega]
        have ap : appO [.box [.int .i64 cap, .slc (A.map rowV)], .box [.int .i64 0, .slc []], .box [.int .i64 a.id, .int .i64 a.size, .slc (a.S.map rowS)], .list 1 (((pieces D N).take k).map rowD)] [] none 1 (.osl 3 0 k) (some [[.str (pieces D N)[k]]]) = some (.osl 3 0 (k + 1), [.box [.int .i64 cap, .slc (A.map rowV)], .box [.int .i64 0, .slc []], .box [.int .i64 a.id, .int .i64 a.size, .slc (a.S.map rowS)], .list 1 (((pieces D N).take (k + 1)).map rowD)]) := by
          have := app_map (ob := [.box [.int .i64 cap, .slc (A.map rowV)], .box [.int .i64 0, .slc []], .box [.int .i64 a.id, .int .i64 a.size, .slc (a.S.map rowS)], .list 1 (((pieces D N).take k).map rowD)]) (fb := []) (nw := none) (o := 3) (n := k) (e := 1) (g := rowD) (l := (pieces D N).take k) (m := [(pieces D N)[k]]) rfl rfl hrl.symm (by rw [hrl]; omega) (by simp) rowD_len
          rw [List.take_succ_eq_append_getElem hkp]
          exact this
        simp (config := {maxSteps := 4000000}) only [U_ref14_Vol_Write, d, e5, e6, hss, rowV, ap, e4, reduceIte, reduceCtorEq, Nat.reduceEqDiff, Nat.reduceAdd, Int.reduceLT, Int.reduceLE, Int.reduceNeg, Int.reduceEq, Nat.reduceLT, Nat.reduceSub, Nat.reduceMul, Nat.reduceBEq, Nat.reduceLeDiff, Int.reduceBEq, Int.reduceBNe, Int.reduceToNat, ne_eq, implies_true, bA]
        exact ⟨k + 1, rfl, h, by omega⟩
      · obtain rfl : k = N := by omega
        have d : decide ((k : Int) < (k : Int)) = false := by simp
        have hpk : (pieces D k).take k = pieces D k := List.take_of_length_le (by omega)
        have hly := rlay_spec a fr (pieces D k) (hk.sec a ha).srt (by omega) (by omega) h2 (by omega)
        have hpl2 := layS_len a.S fr (pieces D k)
        have hdl := delG_len hk.srt ha
        simp only [key_spc] at hdl
        have hp := with_spec cap A ⟨a.id, a.size, layS a.S fr (pieces D k)⟩ (by omega) (by simp only; omega)
        subst hid
        simp only [pvV, rowV] at hp hly
        have hg2 : ∀ ob, ob[3]? = some (AObj.list 1 ((pieces D k).map rowD)) → ICall Try.prog 62 [.agg [.int .i64 a.id, .int .i64 a.size, .slc (a.S.map rowS)], .int .i64 fr, .osl 3 0 k] ob fun r' ob' => r' = .agg [.int .i64 a.id, .int .i64 a.size, .slc ((layS a.S fr (pieces D k)).map rowS)] ∧ ob' = ob.set 3 .junk :=
          fun ob ho => PCall.give (pre := [.agg [.int .i64 a.id, .int .i64 a.size, .slc (a.S.map rowS)], .int .i64 fr]) (post := []) hly ho (by simp; omega) (by omega) rfl rfl (fun _ _ _ _ h => h)
        rw [hpk]
        simp (config := {maxSteps := 4000000}) only [U_ref14_Vol_Write, d, rowV, reduceIte, reduceCtorEq, Nat.reduceEqDiff, Nat.reduceAdd, Int.reduceLT, Int.reduceLE, Int.reduceNeg, Int.reduceEq, Nat.reduceLT, Nat.reduceSub, Nat.reduceMul, Nat.reduceBEq, Nat.reduceLeDiff, Int.reduceBEq, Int.reduceBNe, Int.reduceToNat, ne_eq, implies_true, bA]
        refine ⟨callM (hg2 _ rfl) ?_, callM (hg2 _ rfl) ?_⟩
        all_goals
          rintro r ob' ⟨rfl, rfl⟩
          simp (config := {maxSteps := 4000000}) only [U_ref14_Vol_Write, reduceIte, reduceCtorEq, Nat.reduceEqDiff, Nat.reduceAdd, Int.reduceLT, Int.reduceLE, Int.reduceNeg, Int.reduceEq, Nat.reduceLT, Nat.reduceSub, Nat.reduceMul, Nat.reduceBEq, Nat.reduceLeDiff, Int.reduceBEq, Int.reduceBNe, Int.reduceToNat, ne_eq, implies_true, bA]
          refine callI hp ?_
          simp (config := {maxSteps := 4000000}) only [U_ref14_Vol_Write, reduceIte, reduceCtorEq, Nat.reduceEqDiff, Nat.reduceAdd, Int.reduceLT, Int.reduceLE, Int.reduceNeg, Int.reduceEq, Nat.reduceLT, Nat.reduceSub, Nat.reduceMul, Nat.reduceBEq, Nat.reduceLeDiff, Int.reduceBEq, Int.reduceBNe, Int.reduceToNat, ne_eq, implies_true, bA]

theorem rread_spec (cap : Int) (A : List Spc) (hk : VolOk cap A) (id fr n : Int) : PCall Try.prog 64 [pvV cap A, .int .i64 id, .int .i64 fr, .int .i64 n] (.tup [.str (readV A id fr n).1, .int .i64 (readV A id fr n).2]) := by
  refine pcall_dr Try.func64 comp_ref14_Vol_Read ?_
  have hl := hk.len
  unfold readV
  have hw := rwithin_spec cap A hk id fr n (decide (n ≤ 8))
  simp only [pvV] at hw
  simp (config := {maxSteps := 4000000}) only [U_ref14_Vol_Read, pvV, reduceIte, reduceCtorEq, Nat.reduceEqDiff, Nat.reduceAdd, Int.reduceLT, Int.reduceLE, Int.reduceNeg, Int.reduceEq, Nat.reduceLT, Nat.reduceSub, Nat.reduceMul, Nat.reduceBEq, Nat.reduceLeDiff, Int.reduceBEq, Int.reduceBNe, Int.reduceToNat, ne_eq, implies_true, bA]
  refine callI hw ?_
  by_cases c : withinV A id fr n (decide (n ≤ 8)) ≠ 0
  · have d := neqF c
    rw [if_pos c]
    simp (config := {maxSteps := 4000000}) only [U_ref14_Vol_Read, d, reduceIte, reduceCtorEq, Nat.reduceEqDiff, Nat.reduceAdd, Int.reduceLT, Int.reduceLE, Int.reduceNeg, Int.reduceEq, Nat.reduceLT, Nat.reduceSub, Nat.reduceMul, Nat.reduceBEq, Nat.reduceLeDiff, Int.reduceBEq, Int.reduceBNe, Int.reduceToNat, ne_eq, implies_true, bA]
  · rw [if_neg c]
    have c0 := Decidable.not_not.1 c
    obtain ⟨a, hg, hm, h1, h2, h3⟩ := within_ok c0
    have hn8 : n ≤ 8 := by simpa using hm
    rw [c0]
    obtain ⟨i, hi, hlt, hia⟩ := getG_idx hg
    obtain ⟨ha, hid⟩ := getG_some hg
    have hfi : findI id A = (i : Int) := by rw [findI, hi]
    have isl := fun ob fb => islV_map (ob := ob) (fb := fb) (k := .i64) (g := rowV) hlt (rowV_len _)
    rw [hia] at isl
    have hu := usedV_mem hk.srt ha
    have hus := hk.use
    have hc1 := hk.c1
    have hsz := hk.szs a ha
    have hf := find_spec cap A id (by omega)
    rw [hfi] at hf
    simp only [pvV] at hf
    obtain ⟨N, rfl⟩ : ∃ N : Nat, n = (N : Int) := ⟨n.toNat, by omega⟩
    rw [hg]
    simp only [Int.toNat_natCast]
    simp (config := {maxSteps := 4000000}) only [U_ref14_Vol_Read, neqT, reduceIte, reduceCtorEq, Nat.reduceEqDiff, Nat.reduceAdd, Int.reduceLT, Int.reduceLE, Int.reduceNeg, Int.reduceEq, Nat.reduceLT, Nat.reduceSub, Nat.reduceMul, Nat.reduceBEq, Nat.reduceLeDiff, Int.reduceBEq, Int.reduceBNe, Int.reduceToNat, ne_eq, implies_true, bA]
    refine loopF (fun i : Nat => ⟨ofL [(1, .int .i64 id), (2, .int .i64 fr), (3, .int .i64 (N : Int)), (4, .ref 0 0), (11, .str (readS a.S fr i)), (12, .int .i64 (i : Int))], [.box [.int .i64 cap, .slc (A.map rowV)]]⟩) (fun i => i ≤ N) (fun i => N - i) 0 ?_ (Nat.zero_le _) ?_
    · simp (config := {maxSteps := 4000000}) only [U_ref14_Vol_Read, reduceIte, reduceCtorEq, Nat.reduceEqDiff, Nat.reduceAdd, Int.reduceLT, Int.reduceLE, Int.reduceNeg, Int.reduceEq, Nat.reduceLT, Nat.reduceSub, Nat.reduceMul, Nat.reduceBEq, Nat.reduceLeDiff, Int.reduceBEq, Int.reduceBNe, Int.reduceToNat, ne_eq, implies_true, bA]
      all_goals rfl
    · intro k hk2
      by_cases h : k < N
      · have d : decide ((k : Int) < (N : Int)) = true := by simp; omega
        have e4 : IntKind.i64.wrap ((k : Int) + 1) = ((k + 1 : Nat) : Int) := by rw [wrapI (by omega) (by omega)]; omega
        have e1 : IntKind.i64.wrap (fr + (k : Int)) = fr + (k : Int) := wrapI (by omega) (by omega)
        have hof := rof_spec a (fr + (k : Int)) (by omega)
        simp only [rowV] at hof
        have hl1 := readS_len (hk.sec a ha) fr k
        have hl2 := ofSc_len (hk.sec a ha) (fr + (k : Int))
        have hb : binS .add (readS a.S fr k) (ofSc a.S (fr + (k : Int))) = some (.str (readS a.S fr (k + 1))) := binS_add (by omega)
        simp (config := {maxSteps := 4000000}) only [U_ref14_Vol_Read, d, reduceIte, reduceCtorEq, Nat.reduceEqDiff, Nat.reduceAdd, Int.reduceLT, Int.reduceLE, Int.reduceNeg, Int.reduceEq, Nat.reduceLT, Nat.reduceSub, Nat.reduceMul, Nat.reduceBEq, Nat.reduceLeDiff, Int.reduceBEq, Int.reduceBNe, Int.reduceToNat, ne_eq, implies_true, bA]
        refine callI hf ?_
        simp (config := {maxSteps := 4000000}) only [U_ref14_Vol_Read, isl, rowV, e1, reduceIte, reduceCtorEq, Nat.reduceEqDiff, Nat.reduceAdd, Int.reduceLT, Int.reduceLE, Int.reduceNeg, Int.reduceEq, Nat.reduceLT, Nat.reduceSub, Nat.reduceMul, Nat.reduceBEq, Nat.reduceLeDiff, Int.reduceBEq, Int.reduceBNe, Int.reduceToNat, ne_eq, implies_true, bA]
        refine callI hof ?_
        simp (config := {maxSteps := 4000000}) only [U_ref14_Vol_Read, hb, e4, reduceIte, reduceCtorEq, Nat.reduceEqDiff, Nat.reduceAdd, Int.reduceLT, Int.reduceLE, Int.reduceNeg, Int.reduceEq, Nat.reduceLT, Nat.reduceSub, Nat.reduceMul, Nat.reduceBEq, Nat.reduceLeDiff, Int.reduceBEq, Int.reduceBNe, Int.reduceToNat, ne_eq, implies_true, bA]
        exact ⟨k + 1, rfl, h, by omega⟩
      · obtain rfl : k = N := by omega
        have d : decide ((k : Int) < (k : Int)) = false := by simp
        simp (config := {maxSteps := 4000000}) only [U_ref14_Vol_Read, d, reduceIte, reduceCtorEq, Nat.reduceEqDiff, Nat.reduceAdd, Int.reduceLT, Int.reduceLE, Int.reduceNeg, Int.reduceEq, Nat.reduceLT, Nat.reduceSub, Nat.reduceMul, Nat.reduceBEq, Nat.reduceLeDiff, Int.reduceBEq, Int.reduceBNe, Int.reduceToNat, ne_eq, implies_true, bA]
end Go.Proofs.Ythjnfjgejdlbfaa.Aw
