/-
  The document's model: what a request answers.
-/
import Derived.Test.YthjnfjgejdlbfaaPRB
import Derived.Test.YthjnfjgejdlbfaaMMod6
set_option linter.unusedSimpArgs false
set_option linter.unusedVariables false
namespace Go.Proofs.Ythjnfjgejdlbfaa.Aw
open Go.RowKit

theorem new17_spec (c : Int) : PCall Try.prog 15 [.int .i64 c] (pvV (max c 0) []) := by
  refine pcall_dr Try.func15 comp_ref17_New ?_
  by_cases h : c < 0
  · have d : decide (c < 0) = true := by simpa using h
    have e : max c 0 = 0 := by omega
    simp (config := {maxSteps := 4000000}) only [U_ref17_New, d, e, pvV, reduceIte, reduceCtorEq, Nat.reduceEqDiff, Nat.reduceAdd, Int.reduceLT, Int.reduceLE, Int.reduceNeg, Int.reduceEq, Nat.reduceLT, Nat.reduceSub, Nat.reduceMul, Nat.reduceBEq, Nat.reduceLeDiff, Int.reduceBEq, Int.reduceBNe, Int.reduceToNat, ne_eq, implies_true, bA]
  · have d : decide (c < 0) = false := by simpa using h
    have e : max c 0 = c := by omega
    simp (config := {maxSteps := 4000000}) only [U_ref17_New, d, e, pvV, reduceIte, reduceCtorEq, Nat.reduceEqDiff, Nat.reduceAdd, Int.reduceLT, Int.reduceLE, Int.reduceNeg, Int.reduceEq, Nat.reduceLT, Nat.reduceSub, Nat.reduceMul, Nat.reduceBEq, Nat.reduceLeDiff, Int.reduceBEq, Int.reduceBNe, Int.reduceToNat, ne_eq, implies_true, bA]
theorem fail17_spec (e : Int) : PCall Try.prog 39 [.int .i64 e] (failP e) := by
  refine pcall_dr Try.func39 comp_ref17_fail ?_
  simp (config := {maxSteps := 4000000}) only [U_ref17_fail, reduceIte, reduceCtorEq, Nat.reduceEqDiff, Nat.reduceAdd, Int.reduceLT, Int.reduceLE, Int.reduceNeg, Int.reduceEq, Nat.reduceLT, Nat.reduceSub, Nat.reduceMul, Nat.reduceBEq, Nat.reduceLeDiff, Int.reduceBEq, Int.reduceBNe, Int.reduceToNat, ne_eq, implies_true, bA]
abbrev ansP (a : Ans) (ids : List Int) : PV := repP a.e a.d a.sz a.us (.slc (rowsZ .i64 ids))
theorem tell10_spec (cap : Int) (A : List Spc) (hk : VolOk cap A) (q : Rq) (h10 : q.op = 10) : PCall Try.prog 38 [pvV cap A, pQ q] (repP 0 [] cap (usedV A) (if A.length = 0 then .nils else .slc (rowsZ .i64 (A.map (·.id))))) := by
  refine pcall_dr Try.func38 comp_ref17_Tell ?_
  have hl := hk.len
  have hlf := rleft_spec cap A hk
  simp only [pvV] at hlf
  have hu0 := usedV_nn A
  have hu := hk.use
  have hc := hk.c1
  have d7 : (q.op == 7) = false := by simp [h10]
  have d8 : (q.op == 8) = false := by simp [h10]
  have d9 : (q.op == 9) = false := by simp [h10]
  have d10 : (q.op != 10) = false := by simp [h10]
  have e1 : IntKind.i64.wrap (cap - (cap - usedV A)) = usedV A := by rw [wrapI (by omega) (by omega)]; omega
  have hrl : ((A.map rowV).length : Int) = (A.length : Int) := by simp
  simp (config := {maxSteps := 4000000}) only [U_ref17_Tell, pvV, d7, d8, d9, d10, reduceIte, reduceCtorEq, Nat.reduceEqDiff, Nat.reduceAdd, Int.reduceLT, Int.reduceLE, Int.reduceNeg, Int.reduceEq, Nat.reduceLT, Nat.reduceSub, Nat.reduceMul, Nat.reduceBEq, Nat.reduceLeDiff, Int.reduceBEq, Int.reduceBNe, Int.reduceToNat, ne_eq, implies_true, bA]
  refine callI hlf ?_
  simp (config := {maxSteps := 4000000}) only [U_ref17_Tell, e1, reduceIte, reduceCtorEq, Nat.reduceEqDiff, Nat.reduceAdd, Int.reduceLT, Int.reduceLE, Int.reduceNeg, Int.reduceEq, Nat.reduceLT, Nat.reduceSub, Nat.reduceMul, Nat.reduceBEq, Nat.reduceLeDiff, Int.reduceBEq, Int.reduceBNe, Int.reduceToNat, ne_eq, implies_true, bA]
  refine loopF (fun i : Nat => ⟨ofL [(2, .ref 0 0), (4, .ref 2 0), (8, .ref 3 0), (9, .int .i64 (i : Int))], if i = 0 then [.box [.int .i64 cap, .slc (A.map rowV)], .box (rowQ q), .box [.int .i64 0, .str [], .int .i64 0, .int .i64 0, .slc []], .box [.int .i64 0, .str [], .int .i64 cap, .int .i64 (usedV A), .nils]]
      else [.box [.int .i64 cap, .slc (A.map rowV)], .box (rowQ q), .box [.int .i64 0, .str [], .int .i64 0, .int .i64 0, .slc []], .box [.int .i64 0, .str [], .int .i64 cap, .int .i64 (usedV A), .osl 4 0 i], .list 1 (rowsZ .i64 ((A.take i).map (·.id)))]⟩) (fun i => i ≤ A.length) (fun i => A.length - i) 0 ?_ (Nat.zero_le _) ?_
  · simp (config := {maxSteps := 4000000}) only [U_ref17_Tell, reduceIte, reduceCtorEq, Nat.reduceEqDiff, Nat.reduceAdd, Int.reduceLT, Int.reduceLE, Int.reduceNeg, Int.reduceEq, Nat.reduceLT, Nat.reduceSub, Nat.reduceMul, Nat.reduceBEq, Nat.reduceLeDiff, Int.reduceBEq, Int.reduceBNe, Int.reduceToNat, ne_eq, implies_true, bA]
  · intro i hi
    by_cases hlt : i < A.length
    · have d : decide ((i : Int) < (A.length : Int)) = true := by simpa using hlt
      have e4 : IntKind.i64.wrap ((i : Int) + 1) = ((i + 1 : Nat) : Int) := by rw [wrapI (by omega) (by omega)]; omega
      have isl := fun ob fb => islV_map (ob := ob) (fb := fb) (k := .i64) (g := rowV) hlt (rowV_len _)
      have htk : (A.take (i + 1)).map (·.id) = (A.take i).map (·.id) ++ [A[i].id] := by rw [List.take_succ_eq_append_getElem hlt, List.map_append]; rfl
      by_cases h0 : i = 0
      · subst h0
        have ha : ∀ fb, appO [.box [.int .i64 cap, .slc (A.map rowV)], .box (rowQ q), .box [.int .i64 0, .str [], .int .i64 0, .int .i64 0, .slc []], .box [.int .i64 0, .str [], .int .i64 cap, .int .i64 (usedV A), .nils], .none] fb (some 4) 1 .nils (some [[.int .i64 A[0].id]]) = some (.osl 4 0 1, [.box [.int .i64 cap, .slc (A.map rowV)], .box (rowQ q), .box [.int .i64 0, .str [], .int .i64 0, .int .i64 0, .slc []], .box [.int .i64 0, .str [], .int .i64 cap, .int .i64 (usedV A), .nils], .list 1 [[.int .i64 A[0].id]]]) := fun fb => appO_nilsA rfl rfl (by simp)
        have d0 : decide ((0 : Int) < (A.length : Int)) = true := d
        have isl0 : ∀ ob fb, islV ob fb 3 (.slc (A.map rowV)) (.int .i64 0) = some (.fptr (rowV A[0])) := isl
        have e40 : IntKind.i64.wrap (0 + 1) = ((1 : Nat) : Int) := by decide
        have e41 : IntKind.i64.wrap 1 = ((1 : Nat) : Int) := by decide
        simp (config := {maxSteps := 4000000}) only [U_ref17_Tell, hrl, d0, isl0, rowV, ha, e40, e41, reduceIte, reduceCtorEq, Nat.reduceEqDiff, Nat.reduceAdd, Int.reduceLT, Int.reduceLE, Int.reduceNeg, Int.reduceEq, Nat.reduceLT, Nat.reduceSub, Nat.reduceMul, Nat.reduceBEq, Nat.reduceLeDiff, Int.reduceBEq, Int.reduceBNe, Int.reduceToNat, ne_eq, implies_true, bA]
        refine ⟨1, ?_, hlt, by omega⟩
        rw [if_neg (by omega), htk]
        rfl
      · have ha : ∀ fb (x : AObj), fb.contains 4 = false → appO [.box [.int .i64 cap, .slc (A.map rowV)], .box (rowQ q), .box [.int .i64 0, .str [], .int .i64 0, .int .i64 0, .slc []], .box [.int .i64 0, .str [], .int .i64 cap, .int .i64 (usedV A), .osl 4 0 i], .list 1 (rowsZ .i64 ((A.take i).map (·.id))), x] fb (some 5) 1 (.osl 4 0 i) (some [[.int .i64 A[i].id]]) = some (.osl 4 0 (i + 1), [.box [.int .i64 cap, .slc (A.map rowV)], .box (rowQ q), .box [.int .i64 0, .str [], .int .i64 0, .int .i64 0, .slc []], .box [.int .i64 0, .str [], .int .i64 cap, .int .i64 (usedV A), .osl 4 0 i], .list 1 (rowsZ .i64 ((A.take (i + 1)).map (·.id))), x]) := fun fb x hf => by
          have := app_map (ob := [.box [.int .i64 cap, .slc (A.map rowV)], .box (rowQ q), .box [.int .i64 0, .str [], .int .i64 0, .int .i64 0, .slc []], .box [.int .i64 0, .str [], .int .i64 cap, .int .i64 (usedV A), .osl 4 0 i], .list 1 (rowsZ .i64 ((A.take i).map (·.id))), x]) (fb := fb) (nw := some 5) (o := 4) (n := i) (e := 1) (g := fun n : Int => [PV.int .i64 n]) (l := (A.take i).map (·.id)) (m := [A[i].id]) hf rfl (by simp; omega) (by simp; omega) (by simp) (fun _ => rfl)
          rw [htk]
          exact this
        simp (config := {maxSteps := 4000000}) only [U_ref17_Tell, hrl, d, h0, isl, rowV, ha, e4, reduceIte, reduceCtorEq, Nat.reduceEqDiff, Nat.reduceAdd, Int.reduceLT, Int.reduceLE, Int.reduceNeg, Int.reduceEq, Nat.reduceLT, Nat.reduceSub, Nat.reduceMul, Nat.reduceBEq, Nat.reduceLeDiff, Int.reduceBEq, Int.reduceBNe, Int.reduceToNat, ne_eq, implies_true, bA]
        refine ⟨i + 1, ?_, hlt, by omega⟩
        rw [if_neg (by omega)]
    · have hiA : i = A.length := by omega
      subst hiA
      have d : decide ((A.length : Int) < (A.length : Int)) = false := by simp
      have hta : A.take A.length = A := List.take_length
      by_cases h0 : A.length = 0
      · simp (config := {maxSteps := 4000000}) only [U_ref17_Tell, hrl, d, h0, reduceIte, reduceCtorEq, Nat.reduceEqDiff, Nat.reduceAdd, Int.reduceLT, Int.reduceLE, Int.reduceNeg, Int.reduceEq, Nat.reduceLT, Nat.reduceSub, Nat.reduceMul, Nat.reduceBEq, Nat.reduceLeDiff, Int.reduceBEq, Int.reduceBNe, Int.reduceToNat, ne_eq, implies_true, bA]
      · have hr : rowsO (some (AObj.list 1 (rowsZ .i64 (A.map (·.id))))) 0 A.length = some (rowsZ .i64 (A.map (·.id))) := rowsO_all (by simp [rowsZ])
        simp (config := {maxSteps := 4000000}) only [U_ref17_Tell, hrl, d, h0, hta, hr, reduceIte, reduceCtorEq, Nat.reduceEqDiff, Nat.reduceAdd, Int.reduceLT, Int.reduceLE, Int.reduceNeg, Int.reduceEq, Nat.reduceLT, Nat.reduceSub, Nat.reduceMul, Nat.reduceBEq, Nat.reduceLeDiff, Int.reduceBEq, Int.reduceBNe, Int.reduceToNat, ne_eq, implies_true, bA]
theorem tell_spec (cap : Int) (A : List Spc) (hk : VolOk cap A) (q : Rq) : PCall Try.prog 38 [pvV cap A, pQ q] (ansP (tellA cap A q) (tellI A q)) := by
  by_cases h10 : q.op = 10
  · have h := tell10_spec cap A hk q h10
    have ea : tellA cap A q = ⟨0, [], cap, usedV A⟩ := by unfold tellA; rw [if_neg (by omega), if_neg (by omega), if_neg (by omega), if_pos h10]
    have ei : tellI A q = A.map (·.id) := if_pos h10
    rw [ea, ei]
    by_cases h0 : A.length = 0
    · rw [if_pos h0] at h
      have hA : A = [] := List.length_eq_zero_iff.1 h0
      subst hA
      exact h.nzR rfl
    · rw [if_neg h0] at h
      exact h
  have ei : tellI A q = [] := if_neg h10
  rw [ei]
  refine pcall_dr Try.func38 comp_ref17_Tell ?_
  have hl := hk.len
  unfold tellA
  by_cases c7 : q.op = 7
  · have d7 : (q.op == 7) = true := by simp [c7]
    have hr := rread_spec cap A hk q.id q.fr q.n
    simp only [pvV] at hr
    rw [if_pos c7]
    simp (config := {maxSteps := 4000000}) only [U_ref17_Tell, pvV, d7, reduceIte, reduceCtorEq, Nat.reduceEqDiff, Nat.reduceAdd, Int.reduceLT, Int.reduceLE, Int.reduceNeg, Int.reduceEq, Nat.reduceLT, Nat.reduceSub, Nat.reduceMul, Nat.reduceBEq, Nat.reduceLeDiff, Int.reduceBEq, Int.reduceBNe, Int.reduceToNat, ne_eq, implies_true, bA]
    refine callI hr ?_
    simp (config := {maxSteps := 4000000}) only [U_ref17_Tell, reduceIte, reduceCtorEq, Nat.reduceEqDiff, Nat.reduceAdd, Int.reduceLT, Int.reduceLE, Int.reduceNeg, Int.reduceEq, Nat.reduceLT, Nat.reduceSub, Nat.reduceMul, Nat.reduceBEq, Nat.reduceLeDiff, Int.reduceBEq, Int.reduceBNe, Int.reduceToNat, ne_eq, implies_true, bA]
    rfl
  have d7 : (q.op == 7) = false := by simpa using c7
  rw [if_neg c7]
  by_cases c8 : q.op = 8
  · have d8 : (q.op == 8) = true := by simp [c8]
    rw [if_pos c8]
    simp (config := {maxSteps := 4000000}) only [U_ref17_Tell, pvV, d7, d8, reduceIte, reduceCtorEq, Nat.reduceEqDiff, Nat.reduceAdd, Int.reduceLT, Int.reduceLE, Int.reduceNeg, Int.reduceEq, Nat.reduceLT, Nat.reduceSub, Nat.reduceMul, Nat.reduceBEq, Nat.reduceLeDiff, Int.reduceBEq, Int.reduceBNe, Int.reduceToNat, ne_eq, implies_true, bA]
    refine callI (fail17_spec 0) ?_
    simp (config := {maxSteps := 4000000}) only [U_ref17_Tell, reduceIte, reduceCtorEq, Nat.reduceEqDiff, Nat.reduceAdd, Int.reduceLT, Int.reduceLE, Int.reduceNeg, Int.reduceEq, Nat.reduceLT, Nat.reduceSub, Nat.reduceMul, Nat.reduceBEq, Nat.reduceLeDiff, Int.reduceBEq, Int.reduceBNe, Int.reduceToNat, ne_eq, implies_true, bA]
    rfl
  have d8 : (q.op == 8) = false := by simpa using c8
  rw [if_neg c8]
  by_cases c9 : q.op = 9
  · have d9 : (q.op == 9) = true := by simp [c9]
    have hf := find_spec cap A q.id (by omega)
    simp only [pvV] at hf
    rw [if_pos c9]
    simp (config := {maxSteps := 4000000}) only [U_ref17_Tell, pvV, d7, d8, d9, reduceIte, reduceCtorEq, Nat.reduceEqDiff, Nat.reduceAdd, Int.reduceLT, Int.reduceLE, Int.reduceNeg, Int.reduceEq, Nat.reduceLT, Nat.reduceSub, Nat.reduceMul, Nat.reduceBEq, Nat.reduceLeDiff, Int.reduceBEq, Int.reduceBNe, Int.reduceToNat, ne_eq, implies_true, bA]
    refine callI hf ?_
    cases hg : getG q.id A with
    | none =>
      have hfi : findI q.id A = -1 := by rw [findI, getG_idxN hg]
      simp (config := {maxSteps := 4000000}) only [U_ref17_Tell, hfi, reduceIte, reduceCtorEq, Nat.reduceEqDiff, Nat.reduceAdd, Int.reduceLT, Int.reduceLE, Int.reduceNeg, Int.reduceEq, Nat.reduceLT, Nat.reduceSub, Nat.reduceMul, Nat.reduceBEq, Nat.reduceLeDiff, Int.reduceBEq, Int.reduceBNe, Int.reduceToNat, ne_eq, implies_true, bA]
      refine callI (fail17_spec 4) ?_
      simp (config := {maxSteps := 4000000}) only [U_ref17_Tell, reduceIte, reduceCtorEq, Nat.reduceEqDiff, Nat.reduceAdd, Int.reduceLT, Int.reduceLE, Int.reduceNeg, Int.reduceEq, Nat.reduceLT, Nat.reduceSub, Nat.reduceMul, Nat.reduceBEq, Nat.reduceLeDiff, Int.reduceBEq, Int.reduceBNe, Int.reduceToNat, ne_eq, implies_true, bA]
      rfl
    | some a =>
      obtain ⟨i, hi, hlt, hia⟩ := getG_idx hg
      have hfi : findI q.id A = (i : Int) := by rw [findI, hi]
      have d5 : decide ((i : Int) < 0) = false := by simp
      have isl := fun ob fb => islV_map (ob := ob) (fb := fb) (k := .i64) (g := rowV) hlt (rowV_len _)
      rw [hia] at isl
      have hrl : ((a.S.map rowS).length : Int) = (a.S.length : Int) := by simp
      simp (config := {maxSteps := 4000000}) only [U_ref17_Tell, hfi, d5, isl, rowV, hrl, reduceIte, reduceCtorEq, Nat.reduceEqDiff, Nat.reduceAdd, Int.reduceLT, Int.reduceLE, Int.reduceNeg, Int.reduceEq, Nat.reduceLT, Nat.reduceSub, Nat.reduceMul, Nat.reduceBEq, Nat.reduceLeDiff, Int.reduceBEq, Int.reduceBNe, Int.reduceToNat, ne_eq, implies_true, bA]
      rfl
  have d9 : (q.op == 9) = false := by simpa using c9
  rw [if_neg c9, if_neg h10]
  have d10 : (q.op != 10) = true := by simpa using h10
  simp (config := {maxSteps := 4000000}) only [U_ref17_Tell, pvV, d7, d8, d9, d10, reduceIte, reduceCtorEq, Nat.reduceEqDiff, Nat.reduceAdd, Int.reduceLT, Int.reduceLE, Int.reduceNeg, Int.reduceEq, Nat.reduceLT, Nat.reduceSub, Nat.reduceMul, Nat.reduceBEq, Nat.reduceLeDiff, Int.reduceBEq, Int.reduceBNe, Int.reduceToNat, ne_eq, implies_true, bA]
  refine callI (fail17_spec 1) ?_
  simp (config := {maxSteps := 4000000}) only [U_ref17_Tell, reduceIte, reduceCtorEq, Nat.reduceEqDiff, Nat.reduceAdd, Int.reduceLT, Int.reduceLE, Int.reduceNeg, Int.reduceEq, Nat.reduceLT, Nat.reduceSub, Nat.reduceMul, Nat.reduceBEq, Nat.reduceLeDiff, Int.reduceBEq, Int.reduceBNe, Int.reduceToNat, ne_eq, implies_true, bA]
  rfl
theorem do17_spec (cap : Int) (A : List Spc) (hk : VolOk cap A) (q : Rq) (hq : q.d.length ≤ 1000) : PCall Try.prog 16 [pvV cap A, pQ q] (.tup [pvV cap (doV cap A q).1, ansP (doV cap A q).2 (tellI A q)]) := by
  rw [← doR_eq]
  refine pcall_dr Try.func16 comp_ref17_Do ?_
  unfold doR
  by_cases c1 : q.op = 1
  · have d1 : (q.op == 1) = true := by simp [c1]
    have hs := rcreate_spec cap A hk q.id q.n
    have ei : tellI A q = [] := if_neg (by omega)
    rw [if_pos c1, ei]
    simp only [pvV] at hs
    simp (config := {maxSteps := 4000000}) only [U_ref17_Do, pvV, d1, reduceIte, reduceCtorEq, Nat.reduceEqDiff, Nat.reduceAdd, Int.reduceLT, Int.reduceLE, Int.reduceNeg, Int.reduceEq, Nat.reduceLT, Nat.reduceSub, Nat.reduceMul, Nat.reduceBEq, Nat.reduceLeDiff, Int.reduceBEq, Int.reduceBNe, Int.reduceToNat, ne_eq, implies_true, bA]
    refine callI hs ?_
    simp (config := {maxSteps := 4000000}) only [U_ref17_Do, reduceIte, reduceCtorEq, Nat.reduceEqDiff, Nat.reduceAdd, Int.reduceLT, Int.reduceLE, Int.reduceNeg, Int.reduceEq, Nat.reduceLT, Nat.reduceSub, Nat.reduceMul, Nat.reduceBEq, Nat.reduceLeDiff, Int.reduceBEq, Int.reduceBNe, Int.reduceToNat, ne_eq, implies_true, bA]
    refine callI (fail17_spec _) ?_
    simp (config := {maxSteps := 4000000}) only [U_ref17_Do, reduceIte, reduceCtorEq, Nat.reduceEqDiff, Nat.reduceAdd, Int.reduceLT, Int.reduceLE, Int.reduceNeg, Int.reduceEq, Nat.reduceLT, Nat.reduceSub, Nat.reduceMul, Nat.reduceBEq, Nat.reduceLeDiff, Int.reduceBEq, Int.reduceBNe, Int.reduceToNat, ne_eq, implies_true, bA]
    rfl
  have d1 : (q.op == 1) = false := by simpa using c1
  rw [if_neg c1]
  by_cases c2 : q.op = 2
  · have d2 : (q.op == 2) = true := by simp [c2]
    have hs := rresize_spec cap A hk q.id q.n
    have ei : tellI A q = [] := if_neg (by omega)
    rw [if_pos c2, ei]
    simp only [pvV] at hs
    simp (config := {maxSteps := 4000000}) only [U_ref17_Do, pvV, d1, d2, reduceIte, reduceCtorEq, Nat.reduceEqDiff, Nat.reduceAdd, Int.reduceLT, Int.reduceLE, Int.reduceNeg, Int.reduceEq, Nat.reduceLT, Nat.reduceSub, Nat.reduceMul, Nat.reduceBEq, Nat.reduceLeDiff, Int.reduceBEq, Int.reduceBNe, Int.reduceToNat, ne_eq, implies_true, bA]
    refine callI hs ?_
    simp (config := {maxSteps := 4000000}) only [U_ref17_Do, reduceIte, reduceCtorEq, Nat.reduceEqDiff, Nat.reduceAdd, Int.reduceLT, Int.reduceLE, Int.reduceNeg, Int.reduceEq, Nat.reduceLT, Nat.reduceSub, Nat.reduceMul, Nat.reduceBEq, Nat.reduceLeDiff, Int.reduceBEq, Int.reduceBNe, Int.reduceToNat, ne_eq, implies_true, bA]
    refine callI (fail17_spec _) ?_
    simp (config := {maxSteps := 4000000}) only [U_ref17_Do, reduceIte, reduceCtorEq, Nat.reduceEqDiff, Nat.reduceAdd, Int.reduceLT, Int.reduceLE, Int.reduceNeg, Int.reduceEq, Nat.reduceLT, Nat.reduceSub, Nat.reduceMul, Nat.reduceBEq, Nat.reduceLeDiff, Int.reduceBEq, Int.reduceBNe, Int.reduceToNat, ne_eq, implies_true, bA]
    rfl
  have d2 : (q.op == 2) = false := by simpa using c2
  rw [if_neg c2]
  by_cases c3 : q.op = 3
  · have d3 : (q.op == 3) = true := by simp [c3]
    have hs := rdelete_spec cap A hk q.id
    have ei : tellI A q = [] := if_neg (by omega)
    rw [if_pos c3, ei]
    simp only [pvV] at hs
    simp (config := {maxSteps := 4000000}) only [U_ref17_Do, pvV, d1, d2, d3, reduceIte, reduceCtorEq, Nat.reduceEqDiff, Nat.reduceAdd, Int.reduceLT, Int.reduceLE, Int.reduceNeg, Int.reduceEq, Nat.reduceLT, Nat.reduceSub, Nat.reduceMul, Nat.reduceBEq, Nat.reduceLeDiff, Int.reduceBEq, Int.reduceBNe, Int.reduceToNat, ne_eq, implies_true, bA]
    refine callI hs ?_
    simp (config := {maxSteps := 4000000}) only [U_ref17_Do, reduceIte, reduceCtorEq, Nat.reduceEqDiff, Nat.reduceAdd, Int.reduceLT, Int.reduceLE, Int.reduceNeg, Int.reduceEq, Nat.reduceLT, Nat.reduceSub, Nat.reduceMul, Nat.reduceBEq, Nat.reduceLeDiff, Int.reduceBEq, Int.reduceBNe, Int.reduceToNat, ne_eq, implies_true, bA]
    refine callI (fail17_spec _) ?_
    simp (config := {maxSteps := 4000000}) only [U_ref17_Do, reduceIte, reduceCtorEq, Nat.reduceEqDiff, Nat.reduceAdd, Int.reduceLT, Int.reduceLE, Int.reduceNeg, Int.reduceEq, Nat.reduceLT, Nat.reduceSub, Nat.reduceMul, Nat.reduceBEq, Nat.reduceLeDiff, Int.reduceBEq, Int.reduceBNe, Int.reduceToNat, ne_eq, implies_true, bA]
    rfl
  have d3 : (q.op == 3) = false := by simpa using c3
  rw [if_neg c3]
  by_cases c4 : q.op = 4
  · have d4 : (q.op == 4) = true := by simp [c4]
    have hs := rwrite_spec cap A hk q.id q.fr q.d hq
    have ei : tellI A q = [] := if_neg (by omega)
    rw [if_pos c4, ei]
    simp only [pvV] at hs
    simp (config := {maxSteps := 4000000}) only [U_ref17_Do, pvV, d1, d2, d3, d4, reduceIte, reduceCtorEq, Nat.reduceEqDiff, Nat.reduceAdd, Int.reduceLT, Int.reduceLE, Int.reduceNeg, Int.reduceEq, Nat.reduceLT, Nat.reduceSub, Nat.reduceMul, Nat.reduceBEq, Nat.reduceLeDiff, Int.reduceBEq, Int.reduceBNe, Int.reduceToNat, ne_eq, implies_true, bA]
    refine callI hs ?_
    simp (config := {maxSteps := 4000000}) only [U_ref17_Do, reduceIte, reduceCtorEq, Nat.reduceEqDiff, Nat.reduceAdd, Int.reduceLT, Int.reduceLE, Int.reduceNeg, Int.reduceEq, Nat.reduceLT, Nat.reduceSub, Nat.reduceMul, Nat.reduceBEq, Nat.reduceLeDiff, Int.reduceBEq, Int.reduceBNe, Int.reduceToNat, ne_eq, implies_true, bA]
    refine callI (fail17_spec _) ?_
    simp (config := {maxSteps := 4000000}) only [U_ref17_Do, reduceIte, reduceCtorEq, Nat.reduceEqDiff, Nat.reduceAdd, Int.reduceLT, Int.reduceLE, Int.reduceNeg, Int.reduceEq, Nat.reduceLT, Nat.reduceSub, Nat.reduceMul, Nat.reduceBEq, Nat.reduceLeDiff, Int.reduceBEq, Int.reduceBNe, Int.reduceToNat, ne_eq, implies_true, bA]
    rfl
  have d4 : (q.op == 4) = false := by simpa using c4
  rw [if_neg c4]
  by_cases c5 : q.op = 5
  · have d5 : (q.op == 5) = true := by simp [c5]
    have hs := rzero_spec cap A hk q.id q.fr q.n
    have ei : tellI A q = [] := if_neg (by omega)
    rw [if_pos c5, ei]
    simp only [pvV] at hs
    simp (config := {maxSteps := 4000000}) only [U_ref17_Do, pvV, d1, d2, d3, d4, d5, reduceIte, reduceCtorEq, Nat.reduceEqDiff, Nat.reduceAdd, Int.reduceLT, Int.reduceLE, Int.reduceNeg, Int.reduceEq, Nat.reduceLT, Nat.reduceSub, Nat.reduceMul, Nat.reduceBEq, Nat.reduceLeDiff, Int.reduceBEq, Int.reduceBNe, Int.reduceToNat, ne_eq, implies_true, bA]
    refine callI hs ?_
    simp (config := {maxSteps := 4000000}) only [U_ref17_Do, reduceIte, reduceCtorEq, Nat.reduceEqDiff, Nat.reduceAdd, Int.reduceLT, Int.reduceLE, Int.reduceNeg, Int.reduceEq, Nat.reduceLT, Nat.reduceSub, Nat.reduceMul, Nat.reduceBEq, Nat.reduceLeDiff, Int.reduceBEq, Int.reduceBNe, Int.reduceToNat, ne_eq, implies_true, bA]
    refine callI (fail17_spec _) ?_
    simp (config := {maxSteps := 4000000}) only [U_ref17_Do, reduceIte, reduceCtorEq, Nat.reduceEqDiff, Nat.reduceAdd, Int.reduceLT, Int.reduceLE, Int.reduceNeg, Int.reduceEq, Nat.reduceLT, Nat.reduceSub, Nat.reduceMul, Nat.reduceBEq, Nat.reduceLeDiff, Int.reduceBEq, Int.reduceBNe, Int.reduceToNat, ne_eq, implies_true, bA]
    rfl
  have d5 : (q.op == 5) = false := by simpa using c5
  rw [if_neg c5]
  by_cases c6 : q.op = 6
  · have d6 : (q.op == 6) = true := by simp [c6]
    have hs := rtrim_spec cap A hk q.id q.fr q.n
    have ei : tellI A q = [] := if_neg (by omega)
    rw [if_pos c6, ei]
    simp only [pvV] at hs
    simp (config := {maxSteps := 4000000}) only [U_ref17_Do, pvV, d1, d2, d3, d4, d5, d6, reduceIte, reduceCtorEq, Nat.reduceEqDiff, Nat.reduceAdd, Int.reduceLT, Int.reduceLE, Int.reduceNeg, Int.reduceEq, Nat.reduceLT, Nat.reduceSub, Nat.reduceMul, Nat.reduceBEq, Nat.reduceLeDiff, Int.reduceBEq, Int.reduceBNe, Int.reduceToNat, ne_eq, implies_true, bA]
    refine callI hs ?_
    simp (config := {maxSteps := 4000000}) only [U_ref17_Do, reduceIte, reduceCtorEq, Nat.reduceEqDiff, Nat.reduceAdd, Int.reduceLT, Int.reduceLE, Int.reduceNeg, Int.reduceEq, Nat.reduceLT, Nat.reduceSub, Nat.reduceMul, Nat.reduceBEq, Nat.reduceLeDiff, Int.reduceBEq, Int.reduceBNe, Int.reduceToNat, ne_eq, implies_true, bA]
    refine callI (fail17_spec _) ?_
    simp (config := {maxSteps := 4000000}) only [U_ref17_Do, reduceIte, reduceCtorEq, Nat.reduceEqDiff, Nat.reduceAdd, Int.reduceLT, Int.reduceLE, Int.reduceNeg, Int.reduceEq, Nat.reduceLT, Nat.reduceSub, Nat.reduceMul, Nat.reduceBEq, Nat.reduceLeDiff, Int.reduceBEq, Int.reduceBNe, Int.reduceToNat, ne_eq, implies_true, bA]
    rfl
  have d6 : (q.op == 6) = false := by simpa using c6
  rw [if_neg c6]
  have hs := tell_spec cap A hk q
  simp only [pvV] at hs
  simp (config := {maxSteps := 4000000}) only [U_ref17_Do, pvV, d1, d2, d3, d4, d5, d6, reduceIte, reduceCtorEq, Nat.reduceEqDiff, Nat.reduceAdd, Int.reduceLT, Int.reduceLE, Int.reduceNeg, Int.reduceEq, Nat.reduceLT, Nat.reduceSub, Nat.reduceMul, Nat.reduceBEq, Nat.reduceLeDiff, Int.reduceBEq, Int.reduceBNe, Int.reduceToNat, ne_eq, implies_true, bA]
  refine callI hs ?_
  simp (config := {maxSteps := 4000000}) only [U_ref17_Do, reduceIte, reduceCtorEq, Nat.reduceEqDiff, Nat.reduceAdd, Int.reduceLT, Int.reduceLE, Int.reduceNeg, Int.reduceEq, Nat.reduceLT, Nat.reduceSub, Nat.reduceMul, Nat.reduceBEq, Nat.reduceLeDiff, Int.reduceBEq, Int.reduceBNe, Int.reduceToNat, ne_eq, implies_true, bA]

/- the same answers -/
theorem rep16_spec (e : Int) (d : List UInt8) (sz us : Int) (ids : List Int) : PCall Try.prog 41 [repP e d sz us (.slc (rowsZ .i64 ids))] (repP e d sz us (.slc (rowsZ .i64 ids))) := by
  refine pcall_dr Try.func41 comp_law16_Rep ?_
  simp (config := {maxSteps := 4000000}) only [U_law16_Rep, reduceIte, reduceCtorEq, Nat.reduceEqDiff, Nat.reduceAdd, Int.reduceLT, Int.reduceLE, Int.reduceNeg, Int.reduceEq, Nat.reduceLT, Nat.reduceSub, Nat.reduceMul, Nat.reduceBEq, Nat.reduceLeDiff, Int.reduceBEq, Int.reduceBNe, Int.reduceToNat, ne_eq, implies_true, bA]
theorem same16_spec (e : Int) (d : List UInt8) (sz us : Int) (ids : List Int) (hi : ids.length ≤ 1000000) : PCall Try.prog 40 [repP e d sz us (.slc (rowsZ .i64 ids)), repP e d sz us (.slc (rowsZ .i64 ids))] (.bool true) := by
  refine pcall_dr Try.func40 comp_ref16_Same ?_
  have bn : ∀ a : Int, (a != a) = false := fun a => by simp
  have hrl : ((rowsZ .i64 ids).length : Int) = (ids.length : Int) := by simp [rowsZ]
  simp (config := {maxSteps := 4000000}) only [U_ref16_Same, bn, reduceIte, reduceCtorEq, Nat.reduceEqDiff, Nat.reduceAdd, Int.reduceLT, Int.reduceLE, Int.reduceNeg, Int.reduceEq, Nat.reduceLT, Nat.reduceSub, Nat.reduceMul, Nat.reduceBEq, Nat.reduceLeDiff, Int.reduceBEq, Int.reduceBNe, Int.reduceToNat, ne_eq, implies_true, bA]
  refine loopF (fun i : Nat => ⟨ofL [(2, .ref 0 0), (3, .ref 1 0), (5, .int .i64 (i : Int))], [.box [.int .i64 e, .str d, .int .i64 sz, .int .i64 us, .slc (rowsZ .i64 ids)], .box [.int .i64 e, .str d, .int .i64 sz, .int .i64 us, .slc (rowsZ .i64 ids)]]⟩) (fun i => i ≤ ids.length) (fun i => ids.length - i) 0 ?_ (Nat.zero_le _) ?_
  · simp (config := {maxSteps := 4000000}) only [U_ref16_Same, reduceIte, reduceCtorEq, Nat.reduceEqDiff, Nat.reduceAdd, Int.reduceLT, Int.reduceLE, Int.reduceNeg, Int.reduceEq, Nat.reduceLT, Nat.reduceSub, Nat.reduceMul, Nat.reduceBEq, Nat.reduceLeDiff, Int.reduceBEq, Int.reduceBNe, Int.reduceToNat, ne_eq, implies_true, bA]
    all_goals rfl
  · intro i hi2
    by_cases h : i < ids.length
    · have d : decide ((i : Int) < (ids.length : Int)) = true := by simpa using h
      have e4 : IntKind.i64.wrap ((i : Int) + 1) = ((i + 1 : Nat) : Int) := by rw [wrapI (by omega) (by omega)]; omega
      have isl := fun ob fb => islV_Z (ob := ob) (fb := fb) (k := .i64) (k' := .i64) h
      simp (config := {maxSteps := 4000000}) only [U_ref16_Same, hrl, d, isl, bn, e4, reduceIte, reduceCtorEq, Nat.reduceEqDiff, Nat.reduceAdd, Int.reduceLT, Int.reduceLE, Int.reduceNeg, Int.reduceEq, Nat.reduceLT, Nat.reduceSub, Nat.reduceMul, Nat.reduceBEq, Nat.reduceLeDiff, Int.reduceBEq, Int.reduceBNe, Int.reduceToNat, ne_eq, implies_true, bA]
      exact ⟨i + 1, rfl, h, by omega⟩
    · have d : decide ((i : Int) < (ids.length : Int)) = false := by simpa using h
      simp (config := {maxSteps := 4000000}) only [U_ref16_Same, hrl, d, reduceIte, reduceCtorEq, Nat.reduceEqDiff, Nat.reduceAdd, Int.reduceLT, Int.reduceLE, Int.reduceNeg, Int.reduceEq, Nat.reduceLT, Nat.reduceSub, Nat.reduceMul, Nat.reduceBEq, Nat.reduceLeDiff, Int.reduceBEq, Int.reduceBNe, Int.reduceToNat, ne_eq, implies_true, bA]
end Go.Proofs.Ythjnfjgejdlbfaa.Aw
