/-
  ModelPlays: each request answers what the document says.
-/
import Derived.Test.YthjnfjgejdlbfaaL17p
set_option linter.unusedSimpArgs false
set_option linter.unusedVariables false
namespace Go.Proofs.Ythjnfjgejdlbfaa.Aw
open Go.RowKit

set_option maxHeartbeats 4000000 in
theorem plays_law (c0 : Int) (l : List Rq) : PCall Try.prog 5 [.int .i64 c0, .slc (l.map rowQ)] (.bool true) := by
  refine pcall_dr Try.func5 comp_law17_ModelPlays ?_
  by_cases hc : 200 < c0
  · have d : decide (200 < c0) = true := by simpa using hc
    simp (config := {maxSteps := 4000000}) only [U_law17_ModelPlays, d, reduceIte, reduceCtorEq, Nat.reduceEqDiff, Nat.reduceAdd, Int.reduceLT, Int.reduceLE, Int.reduceNeg, Int.reduceEq, Nat.reduceLT, Nat.reduceSub, Nat.reduceMul, Nat.reduceBEq, Nat.reduceLeDiff, Int.reduceBEq, Int.reduceBNe, Int.reduceToNat, ne_eq, implies_true, bA]
    refine callI awake_spec ?_
    simp (config := {maxSteps := 4000000}) only [U_law17_ModelPlays, reduceIte, reduceCtorEq, Nat.reduceEqDiff, Nat.reduceAdd, Int.reduceLT, Int.reduceLE, Int.reduceNeg, Int.reduceEq, Nat.reduceLT, Nat.reduceSub, Nat.reduceMul, Nat.reduceBEq, Nat.reduceLeDiff, Int.reduceBEq, Int.reduceBNe, Int.reduceToNat, ne_eq, implies_true, bA]
  have d : decide (200 < c0) = false := by simpa using hc
  simp (config := {maxSteps := 4000000}) only [U_law17_ModelPlays, d, reduceIte, reduceCtorEq, Nat.reduceEqDiff, Nat.reduceAdd, Int.reduceLT, Int.reduceLE, Int.reduceNeg, Int.reduceEq, Nat.reduceLT, Nat.reduceSub, Nat.reduceMul, Nat.reduceBEq, Nat.reduceLeDiff, Int.reduceBEq, Int.reduceBNe, Int.reduceToNat, ne_eq, implies_true, bA]
  refine callM (new_i _ c0 (by omega)) ?_
  rintro r ob1 ⟨fp1, rfl, hM, hF⟩
  obtain ⟨K, hK⟩ : ∃ K, max c0 0 = K := ⟨_, rfl⟩
  have hn := new17_spec c0
  rw [hK] at hM hn
  replace hM : Mod ob1 fp1 1 K [] := hM
  simp (config := {maxSteps := 4000000}) only [U_law17_ModelPlays, reduceIte, reduceCtorEq, Nat.reduceEqDiff, Nat.reduceAdd, Int.reduceLT, Int.reduceLE, Int.reduceNeg, Int.reduceEq, Nat.reduceLT, Nat.reduceSub, Nat.reduceMul, Nat.reduceBEq, Nat.reduceLeDiff, Int.reduceBEq, Int.reduceBNe, Int.reduceToNat, ne_eq, implies_true, bA]
  refine callI hn ?_
  obtain ⟨pv, hpv⟩ : ∃ pv, ob1.length = pv := ⟨_, rfl⟩
  have hp1 : (ob1 ++ [AObj.box [.int .i64 K, .slc (([] : List Spc).map rowV)]])[pv]? = some (.box [.int .i64 K, .slc (([] : List Spc).map rowV)]) ∧ pv ∉ fp1 := ⟨by rw [← hpv, ap0]; rfl, by rw [← hpv]; exact hM.out (Nat.le_refl _)⟩
  have pa0 : ∀ l, (ob1 ++ l)[pv]? = l[0]? := fun l => by rw [← hpv]; exact ap0 ob1 l
  have ps0 : ∀ l x, (ob1 ++ l).set pv x = ob1 ++ l.set 0 x := fun l x => by rw [← hpv]; exact st0 ob1 l x
  simp (config := {maxSteps := 4000000}) only [U_law17_ModelPlays, pvV, hpv, pa0, ps0, reduceIte, reduceCtorEq, Nat.reduceEqDiff, Nat.reduceAdd, Int.reduceLT, Int.reduceLE, Int.reduceNeg, Int.reduceEq, Nat.reduceLT, Nat.reduceSub, Nat.reduceMul, Nat.reduceBEq, Nat.reduceLeDiff, Int.reduceBEq, Int.reduceBNe, Int.reduceToNat, ne_eq, implies_true, bA]
  refine callI awake_spec ?_
  simp (config := {maxSteps := 4000000}) only [U_law17_ModelPlays, reduceIte, reduceCtorEq, Nat.reduceEqDiff, Nat.reduceAdd, Int.reduceLT, Int.reduceLE, Int.reduceNeg, Int.reduceEq, Nat.reduceLT, Nat.reduceSub, Nat.reduceMul, Nat.reduceBEq, Nat.reduceLeDiff, Int.reduceBEq, Int.reduceBNe, Int.reduceToNat, ne_eq, implies_true, bA]
  refine loopF (fun x : List AObj × List Nat × List Spc × Nat => ⟨ofL [(1, .slc (l.map rowQ)), (5, .ref 1 0), (6, .ref pv 0), (7, .int .i64 (x.2.2.2 : Int))], x.1⟩)
    (fun x => Mod x.1 x.2.1 1 K x.2.2.1 ∧ (x.1[pv]? = some (.box [.int .i64 K, .slc (x.2.2.1.map rowV)]) ∧ pv ∉ x.2.1) ∧ x.2.2.2 ≤ l.length) (fun x => l.length - x.2.2.2) (ob1 ++ [AObj.box [.int .i64 K, .slc (([] : List Spc).map rowV)]], fp1, [], 0) ?_ ⟨hM.app, hp1, Nat.zero_le _⟩ ?_
  · simp (config := {maxSteps := 4000000}) only [U_law17_ModelPlays, reduceIte, reduceCtorEq, Nat.reduceEqDiff, Nat.reduceAdd, Int.reduceLT, Int.reduceLE, Int.reduceNeg, Int.reduceEq, Nat.reduceLT, Nat.reduceSub, Nat.reduceMul, Nat.reduceBEq, Nat.reduceLeDiff, Int.reduceBEq, Int.reduceBNe, Int.reduceToNat, ne_eq, implies_true, bA]
    all_goals rfl
  clear hM hF hp1 hpv
  rintro ⟨ob, fp, A, i⟩ ⟨hM, hp, hi⟩
  simp only at hM hp hi
  by_cases hlt : i < l.length
  · have d1 : decide ((i : Int) < (l.length : Int)) = true := by simpa using hlt
    by_cases h80 : i < 80
    · have d2 : decide ((i : Int) < 80) = true := by simp; omega
      have e1 : IntKind.i64.wrap ((i : Int) + 1) = ((i + 1 : Nat) : Int) := by rw [wrapI (by omega) (by omega)]; omega
      have isl := fun ob fb => islV_map (ob := ob) (fb := fb) (k := .i64) (g := rowQ) (l := l) (e := 5) hlt rfl
      obtain ⟨q, hq⟩ : ∃ q, l[i] = q := ⟨_, rfl⟩
      rw [hq] at isl
      simp (config := {maxSteps := 4000000}) only [U_law17_ModelPlays, d1, d2, isl, reduceIte, reduceCtorEq, Nat.reduceEqDiff, Nat.reduceAdd, Int.reduceLT, Int.reduceLE, Int.reduceNeg, Int.reduceEq, Nat.reduceLT, Nat.reduceSub, Nat.reduceMul, Nat.reduceBEq, Nat.reduceLeDiff, Int.reduceBEq, Int.reduceBNe, Int.reduceToNat, ne_eq, implies_true, bA]
      refine callI (small_spec q) ?_
      by_cases hqs : ¬ (q.d.length : Int) ≤ 1000
      · have dq : decide ((q.d.length : Int) ≤ 1000) = false := by simpa using hqs
        simp (config := {maxSteps := 4000000}) only [U_law17_ModelPlays, dq, e1, reduceIte, reduceCtorEq, Nat.reduceEqDiff, Nat.reduceAdd, Int.reduceLT, Int.reduceLE, Int.reduceNeg, Int.reduceEq, Nat.reduceLT, Nat.reduceSub, Nat.reduceMul, Nat.reduceBEq, Nat.reduceLeDiff, Int.reduceBEq, Int.reduceBNe, Int.reduceToNat, ne_eq, implies_true, bA]
        exact ⟨(ob, fp, A, i + 1), rfl, ⟨hM, hp, hlt⟩, by show l.length - (i + 1) < l.length - i; omega⟩
      replace hqs := Decidable.not_not.1 hqs
      have dq : decide ((q.d.length : Int) ≤ 1000) = true := by simpa using hqs
      have hvol : VolOk K A := by obtain ⟨m, ck, E, h, _⟩ := hM; exact h.vol
      have hds := do17_spec K A hvol q (by omega)
      have hpA := fun l => apL hp.1 l
      have hpl := lt_of_get hp.1
      have n1 : (pv == ob.length) = false := by simp; omega
      have n2 : (pv == ob.length + 1) = false := by simp; omega
      have hsA := sA hpl
      have q1 := sx1 hpl
      have qy1 := sy1 ob pv
      have q0 := sx0 ob pv
      simp only [pvV] at hds
      simp (config := {maxSteps := 4000000}) only [U_law17_ModelPlays, dq, hpA, n1, n2, isl, reduceIte, reduceCtorEq, Nat.reduceEqDiff, Nat.reduceAdd, Int.reduceLT, Int.reduceLE, Int.reduceNeg, Int.reduceEq, Nat.reduceLT, Nat.reduceSub, Nat.reduceMul, Nat.reduceBEq, Nat.reduceLeDiff, Int.reduceBEq, Int.reduceBNe, Int.reduceToNat, ne_eq, implies_true, bA]
      refine callI hds ?_
      obtain ⟨A', e, dd, sz, us, hd⟩ : ∃ A' e dd sz us, doV K A q = (A', ⟨e, dd, sz, us⟩) := ⟨_, _, _, _, _, rfl⟩
      have hdm := fun ob' (h : Mod ob' fp 1 K A) => do_m h q (by omega)
      rw [hd] at hdm ⊢
      simp only at hdm ⊢
      have hM2 : ∀ x l, Mod (ob.set pv x ++ l) fp 1 K A := fun x l => hM.keep fun j hj => by rw [sx4 (fun c => hp.2 (by rw [← c]; exact hj)) (hM.lt j hj)]
      have hids : (tellI A q).length ≤ 1000000 := by
        have := hvol.len
        unfold tellI; split <;> simp <;> omega
      have hsm := same17_spec e dd sz us (tellI A q) hids
      simp (config := {maxSteps := 4000000}) only [U_law17_ModelPlays, ap0, ap1, st0, st1, hpA, hsA, q0, q1, qy1, isl, reduceIte, reduceCtorEq, Nat.reduceEqDiff, Nat.reduceAdd, Int.reduceLT, Int.reduceLE, Int.reduceNeg, Int.reduceEq, Nat.reduceLT, Nat.reduceSub, Nat.reduceMul, Nat.reduceBEq, Nat.reduceLeDiff, Int.reduceBEq, Int.reduceBNe, Int.reduceToNat, ne_eq, implies_true, bA]
      refine ⟨callM (hdm _ (hM2 _ _)) ?_, callM (hdm _ (hM2 _ _)) ?_⟩
      all_goals
        rintro r ob3 ⟨ids, fp3, rfl, hM3, hF3, hids2⟩
        have hw3 := (hF3.at (j := ob.length + 1) ⟨by rw [qy1]; rfl, fun hc => by have := hM.lt _ hc; omega⟩).1
        have hp3 := hF3.at (j := pv) ⟨q1 _ _, hp.2⟩
        have hpv3 := hp3.1
        have hsy := says_r hM3
        simp only [pvV] at hsy
        rcases hids2 with ⟨rfl, ht⟩ | ⟨j, rfl, hj, ht⟩
        · rw [ht] at hsm hw3 ⊢
          simp (config := {maxSteps := 4000000}) only [U_law17_ModelPlays, hw3, reduceIte, reduceCtorEq, Nat.reduceEqDiff, Nat.reduceAdd, Int.reduceLT, Int.reduceLE, Int.reduceNeg, Int.reduceEq, Nat.reduceLT, Nat.reduceSub, Nat.reduceMul, Nat.reduceBEq, Nat.reduceLeDiff, Int.reduceBEq, Int.reduceBNe, Int.reduceToNat, ne_eq, implies_true, bA]
          refine callI hsm ?_
          simp (config := {maxSteps := 4000000}) only [U_law17_ModelPlays, hpv3, reduceIte, reduceCtorEq, Nat.reduceEqDiff, Nat.reduceAdd, Int.reduceLT, Int.reduceLE, Int.reduceNeg, Int.reduceEq, Nat.reduceLT, Nat.reduceSub, Nat.reduceMul, Nat.reduceBEq, Nat.reduceLeDiff, Int.reduceBEq, Int.reduceBNe, Int.reduceToNat, ne_eq, implies_true, bA]
          refine callR hsy ?_
          simp (config := {maxSteps := 4000000}) only [U_law17_ModelPlays, e1, reduceIte, reduceCtorEq, Nat.reduceEqDiff, Nat.reduceAdd, Int.reduceLT, Int.reduceLE, Int.reduceNeg, Int.reduceEq, Nat.reduceLT, Nat.reduceSub, Nat.reduceMul, Nat.reduceBEq, Nat.reduceLeDiff, Int.reduceBEq, Int.reduceBNe, Int.reduceToNat, ne_eq, implies_true, bA]
          exact ⟨(ob3, fp3, A', i + 1), rfl, ⟨hM3, hp3, hlt⟩, by show l.length - (i + 1) < l.length - i; omega⟩
        · have hr : rowsO (some (AObj.list 1 (rowsZ .i64 (A.map (·.id))))) 0 A.length = some (rowsZ .i64 (A.map (·.id))) := rowsO_all (by simp [rowsZ])
          rw [ht] at hsm hw3 ⊢
          simp (config := {maxSteps := 4000000}) only [U_law17_ModelPlays, hw3, hj, hr, reduceIte, reduceCtorEq, Nat.reduceEqDiff, Nat.reduceAdd, Int.reduceLT, Int.reduceLE, Int.reduceNeg, Int.reduceEq, Nat.reduceLT, Nat.reduceSub, Nat.reduceMul, Nat.reduceBEq, Nat.reduceLeDiff, Int.reduceBEq, Int.reduceBNe, Int.reduceToNat, ne_eq, implies_true, bA]
          refine callS hsm rfl ?_
          simp (config := {maxSteps := 4000000}) only [U_law17_ModelPlays, hpv3, reduceIte, reduceCtorEq, Nat.reduceEqDiff, Nat.reduceAdd, Int.reduceLT, Int.reduceLE, Int.reduceNeg, Int.reduceEq, Nat.reduceLT, Nat.reduceSub, Nat.reduceMul, Nat.reduceBEq, Nat.reduceLeDiff, Int.reduceBEq, Int.reduceBNe, Int.reduceToNat, ne_eq, implies_true, bA]
          refine callR hsy ?_
          simp (config := {maxSteps := 4000000}) only [U_law17_ModelPlays, e1, reduceIte, reduceCtorEq, Nat.reduceEqDiff, Nat.reduceAdd, Int.reduceLT, Int.reduceLE, Int.reduceNeg, Int.reduceEq, Nat.reduceLT, Nat.reduceSub, Nat.reduceMul, Nat.reduceBEq, Nat.reduceLeDiff, Int.reduceBEq, Int.reduceBNe, Int.reduceToNat, ne_eq, implies_true, bA]
          exact ⟨(ob3, fp3, A', i + 1), rfl, ⟨hM3, hp3, hlt⟩, by show l.length - (i + 1) < l.length - i; omega⟩
    · have d2 : decide ((i : Int) < 80) = false := by simp; omega
      simp (config := {maxSteps := 4000000}) only [U_law17_ModelPlays, d1, d2, reduceIte, reduceCtorEq, Nat.reduceEqDiff, Nat.reduceAdd, Int.reduceLT, Int.reduceLE, Int.reduceNeg, Int.reduceEq, Nat.reduceLT, Nat.reduceSub, Nat.reduceMul, Nat.reduceBEq, Nat.reduceLeDiff, Int.reduceBEq, Int.reduceBNe, Int.reduceToNat, ne_eq, implies_true, bA]
  · have d1 : decide ((i : Int) < (l.length : Int)) = false := by simpa using hlt
    simp (config := {maxSteps := 4000000}) only [U_law17_ModelPlays, d1, reduceIte, reduceCtorEq, Nat.reduceEqDiff, Nat.reduceAdd, Int.reduceLT, Int.reduceLE, Int.reduceNeg, Int.reduceEq, Nat.reduceLT, Nat.reduceSub, Nat.reduceMul, Nat.reduceBEq, Nat.reduceLeDiff, Int.reduceBEq, Int.reduceBNe, Int.reduceToNat, ne_eq, implies_true, bA]
end Go.Proofs.Ythjnfjgejdlbfaa.Aw
