/-
  What the document's functions compute: reading answers; the same answers.
-/
import Derived.Test.YtoofeppepahpfaaPReq4
set_option linter.unusedSimpArgs false
set_option linter.unusedVariables false
namespace Go.Proofs.Ytoofeppepahpfaa.Aw
open Go.RowKit

theorem getsB (s : List UInt8) (a w : Nat) (h6 : w ≤ 6) : 0 ≤ gS s a w ∧ gS s a w < ((256 ^ w : Nat) : Int) := by
  refine ⟨by rw [gS]; omega, ?_⟩
  rw [gS]
  have h0 : 0 < 256 ^ w := Nat.pow_pos (by decide)
  have : (getS s a w).1 < 256 ^ w := by
    unfold getS
    split
    · exact h0
    · split
      · exact h0
      · have hlt := leN_lt ((s.drop (a : Int).toNat).take (w : Int).toNat)
        have hl : ((s.drop (a : Int).toNat).take (w : Int).toNat).length ≤ w := by simp; omega
        exact Nat.lt_of_lt_of_le hlt (Nat.pow_le_pow_right (by decide) hl)
  exact Int.ofNat_lt.2 this
theorem rra_zero (s : List UInt8) (hs : s.length ≤ 1000000) (hz0 : (openS s).1.length ≤ 12 + dOf (openS s).1) : PCall Try.prog 20 [.str s] (.tup [if (readA s).2 = 0 then .agg (rowN (readA s).1) else pA zeroA, .int .i64 (readA s).2]) := by
  refine pcall_go Try.func20 comp_ref16_ReadAnswer ?_
  simp (config := {maxSteps := 4000000}) only [U_ref16_ReadAnswer, reduceIte, reduceCtorEq, Nat.reduceEqDiff, Nat.reduceAdd, Int.reduceLT, Int.reduceLE, Int.reduceNeg, Int.reduceEq, Nat.reduceLT, Nat.reduceSub, Nat.reduceMul, Nat.reduceBEq, Nat.reduceLeDiff, Int.reduceBEq, Int.reduceBNe, Int.reduceToNat, ne_eq, implies_true, bA]
  refine callI (ropen_spec s hs) ?_
  by_cases h0 : (openS s).2 = 0
  · have d0 : ((openS s).2 != 0) = false := by simpa using h0
    have hol := open_len s
    have hyes := fun h {n : Nat} (h3 : goodA (openS s).1 n) => readA_yes h0 h h3
    have hno := readA_no h0
    have hshort := readA_short h0
    have hz := open_zero h0
    generalize (openS s).1 = t at hol hyes hno hshort hz hz0
    by_cases hl12 : t.length < 12
    · have d1 : decide ((t.length : Int) < 12) = true := by simp only [decide_eq_true_eq]; omega
      rw [hshort (by omega)]
      simp (config := {maxSteps := 4000000}) only [U_ref16_ReadAnswer, d0, d1, reduceIte, reduceCtorEq, Nat.reduceEqDiff, Nat.reduceAdd, Int.reduceLT, Int.reduceLE, Int.reduceNeg, Int.reduceEq, Nat.reduceLT, Nat.reduceSub, Nat.reduceMul, Nat.reduceBEq, Nat.reduceLeDiff, Int.reduceBEq, Int.reduceBNe, Int.reduceToNat, ne_eq, implies_true, bA]
      rfl
    · have d1 : decide ((t.length : Int) < 12) = false := by simp only [decide_eq_false_iff_not]; omega
      have g9 := getsB t 9 2 (by omega)
      have g9d : gS t 9 2 = (dOf t : Int) := by rw [dOf]; omega
      have g9c : ((256 ^ 2 : Nat) : Int) = 65536 := by decide
      rw [g9c, g9d] at g9
      have e0 : IntKind.i64.wrap ((t.length : Int) - 12) = ((t.length - 12 : Nat) : Int) := by rw [wrapI (by omega) (by omega)]; omega
      simp (config := {maxSteps := 4000000}) only [U_ref16_ReadAnswer, d0, d1, reduceIte, reduceCtorEq, Nat.reduceEqDiff, Nat.reduceAdd, Int.reduceLT, Int.reduceLE, Int.reduceNeg, Int.reduceEq, Nat.reduceLT, Nat.reduceSub, Nat.reduceMul, Nat.reduceBEq, Nat.reduceLeDiff, Int.reduceBEq, Int.reduceBNe, Int.reduceToNat, ne_eq, implies_true, bA]
      refine callI (rget_spec16 t 9 2 (by omega) (by omega) (by omega) (by omega)) ?_
      rw [g9d]
      by_cases hd : t.length - 12 < dOf t
      · have d2 : decide (((t.length - 12 : Nat) : Int) < (dOf t : Int)) = true := by simp only [decide_eq_true_eq]; omega
        rw [hshort (by omega)]
        simp (config := {maxSteps := 4000000}) only [U_ref16_ReadAnswer, e0, d2, reduceIte, reduceCtorEq, Nat.reduceEqDiff, Nat.reduceAdd, Int.reduceLT, Int.reduceLE, Int.reduceNeg, Int.reduceEq, Nat.reduceLT, Nat.reduceSub, Nat.reduceMul, Nat.reduceBEq, Nat.reduceLeDiff, Int.reduceBEq, Int.reduceBNe, Int.reduceToNat, ne_eq, implies_true, bA]
        rfl
      · have d2 : decide (((t.length - 12 : Nat) : Int) < (dOf t : Int)) = false := by simp only [decide_eq_false_iff_not]; omega
        have h12 : ¬ t.length < 12 + dOf t := by omega
        obtain ⟨e, he⟩ : ∃ e, e = 12 + dOf t := ⟨_, rfl⟩
        have e9 : IntKind.i64.wrap (12 + (dOf t : Int)) = (e : Int) := by rw [wrapI (by omega) (by omega)]; omega
        have s1 : sstrV (.str t) (some (some 12)) (some (some (e : Int))) = some (.str ((t.take e).drop 12)) := sstrV_both (i := 12) (by omega) (by omega)
        have hD : (t.take e).drop 12 = (t.drop 12).take (dOf t) := by rw [he, List.drop_take, Nat.add_sub_cancel_left]
        rw [hD] at s1
        simp (config := {maxSteps := 4000000}) only [U_ref16_ReadAnswer, e0, d2, reduceIte, reduceCtorEq, Nat.reduceEqDiff, Nat.reduceAdd, Int.reduceLT, Int.reduceLE, Int.reduceNeg, Int.reduceEq, Nat.reduceLT, Nat.reduceSub, Nat.reduceMul, Nat.reduceBEq, Nat.reduceLeDiff, Int.reduceBEq, Int.reduceBNe, Int.reduceToNat, ne_eq, implies_true, bA]
        refine callI (rget_spec16 t 9 2 (by omega) (by omega) (by omega) (by omega)) ?_
        rw [g9d]
        simp (config := {maxSteps := 4000000}) only [U_ref16_ReadAnswer, e9, reduceIte, reduceCtorEq, Nat.reduceEqDiff, Nat.reduceAdd, Int.reduceLT, Int.reduceLE, Int.reduceNeg, Int.reduceEq, Nat.reduceLT, Nat.reduceSub, Nat.reduceMul, Nat.reduceBEq, Nat.reduceLeDiff, Int.reduceBEq, Int.reduceBNe, Int.reduceToNat, ne_eq, implies_true, bA]
        refine callI (rget_spec16 t 0 1 (by omega) (by omega) (by omega) (by omega)) ?_
        simp (config := {maxSteps := 4000000}) only [U_ref16_ReadAnswer, reduceIte, reduceCtorEq, Nat.reduceEqDiff, Nat.reduceAdd, Int.reduceLT, Int.reduceLE, Int.reduceNeg, Int.reduceEq, Nat.reduceLT, Nat.reduceSub, Nat.reduceMul, Nat.reduceBEq, Nat.reduceLeDiff, Int.reduceBEq, Int.reduceBNe, Int.reduceToNat, ne_eq, implies_true, bA]
        refine callI (rget_spec16 t 1 4 (by omega) (by omega) (by omega) (by omega)) ?_
        simp (config := {maxSteps := 4000000}) only [U_ref16_ReadAnswer, reduceIte, reduceCtorEq, Nat.reduceEqDiff, Nat.reduceAdd, Int.reduceLT, Int.reduceLE, Int.reduceNeg, Int.reduceEq, Nat.reduceLT, Nat.reduceSub, Nat.reduceMul, Nat.reduceBEq, Nat.reduceLeDiff, Int.reduceBEq, Int.reduceBNe, Int.reduceToNat, ne_eq, implies_true, bA]
        refine callI (rget_spec16 t 5 4 (by omega) (by omega) (by omega) (by omega)) ?_
        have han : ∀ n, ansN t n = ⟨gS t 0 1, (t.drop 12).take (dOf t), gS t 1 4, gS t 5 4, idsN t (12 + dOf t) n⟩ := fun n => rfl
        have hda : ((t.drop 12).take (dOf t)).length = dOf t := by rw [List.length_take, List.length_drop]; omega
        have hmany : manyA t = min 9 ((t.length - (12 + dOf t) + 1) / 2) := rfl
        generalize manyA t = M at *
        rw [← he] at han hmany h12 hz0
        generalize (t.drop 12).take (dOf t) = D at *
        have hM : M = 0 := by omega
        subst hM
        have dl : decide ((e : Int) < (t.length : Int)) = false := by simp only [decide_eq_false_iff_not]; omega
        simp (config := {maxSteps := 4000000}) only [U_ref16_ReadAnswer, s1, reduceIte, reduceCtorEq, Nat.reduceEqDiff, Nat.reduceAdd, Int.reduceLT, Int.reduceLE, Int.reduceNeg, Int.reduceEq, Nat.reduceLT, Nat.reduceSub, Nat.reduceMul, Nat.reduceBEq, Nat.reduceLeDiff, Int.reduceBEq, Int.reduceBNe, Int.reduceToNat, ne_eq, implies_true, bA]
        refine loopF (fun _ : Unit => ⟨ofL [(0, .str s), (2, .ref 0 0), (4, .str t), (7, .ref 1 0), (8, .int .i64 (e : Int))], [.box [.int .i64 0, .str [], .int .i64 0, .int .i64 0, .slc []], .box [.int .i64 (gS t 0 1), .str D, .int .i64 (gS t 1 4), .int .i64 (gS t 5 4), .nils]]⟩) (fun _ => True) (fun _ => 0) () ?_ trivial ?_
        · simp (config := {maxSteps := 4000000}) only [U_ref16_ReadAnswer, reduceIte, reduceCtorEq, Nat.reduceEqDiff, Nat.reduceAdd, Int.reduceLT, Int.reduceLE, Int.reduceNeg, Int.reduceEq, Nat.reduceLT, Nat.reduceSub, Nat.reduceMul, Nat.reduceBEq, Nat.reduceLeDiff, Int.reduceBEq, Int.reduceBNe, Int.reduceToNat, ne_eq, implies_true, bA]
          all_goals rfl
        · intro _ _
          have hA := PCall.nzA (args' := [.agg [.int .i64 (gS t 0 1), .str D, .int .i64 (gS t 1 4), .int .i64 (gS t 5 4), .nils]]) (ranswer_spec (ansN t 0) (by rw [han]; show D.length ≤ _; omega) (by rw [han]; simp [idsN_zero])) (by rw [han]; rfl)
          rcases writeA_cases (ansN t 0) t s hz with ⟨g1, g2, g3⟩ | ⟨g1, g2⟩
          · rw [hyes (by rw [← he]; exact h12) (show goodA t 0 from ⟨g1, g2⟩)]
            have g4 : (s == s) = true := by simp
            rw [g3] at hA
            simp (config := {maxSteps := 4000000}) only [U_ref16_ReadAnswer, dl, reduceIte, reduceCtorEq, Nat.reduceEqDiff, Nat.reduceAdd, Int.reduceLT, Int.reduceLE, Int.reduceNeg, Int.reduceEq, Nat.reduceLT, Nat.reduceSub, Nat.reduceMul, Nat.reduceBEq, Nat.reduceLeDiff, Int.reduceBEq, Int.reduceBNe, Int.reduceToNat, ne_eq, implies_true, bA]
            refine callI hA ?_
            simp (config := {maxSteps := 4000000}) only [U_ref16_ReadAnswer, g4, reduceIte, reduceCtorEq, Nat.reduceEqDiff, Nat.reduceAdd, Int.reduceLT, Int.reduceLE, Int.reduceNeg, Int.reduceEq, Nat.reduceLT, Nat.reduceSub, Nat.reduceMul, Nat.reduceBEq, Nat.reduceLeDiff, Int.reduceBEq, Int.reduceBNe, Int.reduceToNat, ne_eq, implies_true, bA]
            rw [han]; rfl
          · rw [hno (by rw [← he]; exact h12) g1]
            simp (config := {maxSteps := 4000000}) only [U_ref16_ReadAnswer, dl, reduceIte, reduceCtorEq, Nat.reduceEqDiff, Nat.reduceAdd, Int.reduceLT, Int.reduceLE, Int.reduceNeg, Int.reduceEq, Nat.reduceLT, Nat.reduceSub, Nat.reduceMul, Nat.reduceBEq, Nat.reduceLeDiff, Int.reduceBEq, Int.reduceBNe, Int.reduceToNat, ne_eq, implies_true, bA]
            refine callI hA ?_
            rcases g2 with g2 | ⟨g2, g3⟩
            · simp (config := {maxSteps := 4000000}) only [U_ref16_ReadAnswer, g2, reduceIte, reduceCtorEq, Nat.reduceEqDiff, Nat.reduceAdd, Int.reduceLT, Int.reduceLE, Int.reduceNeg, Int.reduceEq, Nat.reduceLT, Nat.reduceSub, Nat.reduceMul, Nat.reduceBEq, Nat.reduceLeDiff, Int.reduceBEq, Int.reduceBNe, Int.reduceToNat, ne_eq, implies_true, bA]
              rfl
            · simp (config := {maxSteps := 4000000}) only [U_ref16_ReadAnswer, g2, g3, reduceIte, reduceCtorEq, Nat.reduceEqDiff, Nat.reduceAdd, Int.reduceLT, Int.reduceLE, Int.reduceNeg, Int.reduceEq, Nat.reduceLT, Nat.reduceSub, Nat.reduceMul, Nat.reduceBEq, Nat.reduceLeDiff, Int.reduceBEq, Int.reduceBNe, Int.reduceToNat, ne_eq, implies_true, bA]
              rfl
  · have d0 : ((openS s).2 != 0) = true := by simpa using h0
    rw [readA_err h0]
    simp (config := {maxSteps := 4000000}) only [U_ref16_ReadAnswer, d0, reduceIte, reduceCtorEq, Nat.reduceEqDiff, Nat.reduceAdd, Int.reduceLT, Int.reduceLE, Int.reduceNeg, Int.reduceEq, Nat.reduceLT, Nat.reduceSub, Nat.reduceMul, Nat.reduceBEq, Nat.reduceLeDiff, Int.reduceBEq, Int.reduceBNe, Int.reduceToNat, ne_eq, implies_true, bA]
    rw [if_neg h0]; rfl
theorem rra_pos (s : List UInt8) (hs : s.length ≤ 1000000) (hz0 : 12 + dOf (openS s).1 < (openS s).1.length) : PCall Try.prog 20 [.str s] (.tup [pA (readA s).1, .int .i64 (readA s).2]) := by
  refine pcall_go Try.func20 comp_ref16_ReadAnswer ?_
  simp (config := {maxSteps := 4000000}) only [U_ref16_ReadAnswer, reduceIte, reduceCtorEq, Nat.reduceEqDiff, Nat.reduceAdd, Int.reduceLT, Int.reduceLE, Int.reduceNeg, Int.reduceEq, Nat.reduceLT, Nat.reduceSub, Nat.reduceMul, Nat.reduceBEq, Nat.reduceLeDiff, Int.reduceBEq, Int.reduceBNe, Int.reduceToNat, ne_eq, implies_true, bA]
  refine callI (ropen_spec s hs) ?_
  by_cases h0 : (openS s).2 = 0
  · have d0 : ((openS s).2 != 0) = false := by simpa using h0
    have hol := open_len s
    have hyes := fun h {n : Nat} (h3 : goodA (openS s).1 n) => readA_yes h0 h h3
    have hno := readA_no h0
    have hshort := readA_short h0
    have hz := open_zero h0
    generalize (openS s).1 = t at hol hyes hno hshort hz hz0
    by_cases hl12 : t.length < 12
    · have d1 : decide ((t.length : Int) < 12) = true := by simp only [decide_eq_true_eq]; omega
      rw [hshort (by omega)]
      simp (config := {maxSteps := 4000000}) only [U_ref16_ReadAnswer, d0, d1, reduceIte, reduceCtorEq, Nat.reduceEqDiff, Nat.reduceAdd, Int.reduceLT, Int.reduceLE, Int.reduceNeg, Int.reduceEq, Nat.reduceLT, Nat.reduceSub, Nat.reduceMul, Nat.reduceBEq, Nat.reduceLeDiff, Int.reduceBEq, Int.reduceBNe, Int.reduceToNat, ne_eq, implies_true, bA]
      rfl
    · have d1 : decide ((t.length : Int) < 12) = false := by simp only [decide_eq_false_iff_not]; omega
      have g9 := getsB t 9 2 (by omega)
      have g9d : gS t 9 2 = (dOf t : Int) := by rw [dOf]; omega
      have g9c : ((256 ^ 2 : Nat) : Int) = 65536 := by decide
      rw [g9c, g9d] at g9
      have e0 : IntKind.i64.wrap ((t.length : Int) - 12) = ((t.length - 12 : Nat) : Int) := by rw [wrapI (by omega) (by omega)]; omega
      simp (config := {maxSteps := 4000000}) only [U_ref16_ReadAnswer, d0, d1, reduceIte, reduceCtorEq, Nat.reduceEqDiff, Nat.reduceAdd, Int.reduceLT, Int.reduceLE, Int.reduceNeg, Int.reduceEq, Nat.reduceLT, Nat.reduceSub, Nat.reduceMul, Nat.reduceBEq, Nat.reduceLeDiff, Int.reduceBEq, Int.reduceBNe, Int.reduceToNat, ne_eq, implies_true, bA]
      refine callI (rget_spec16 t 9 2 (by omega) (by omega) (by omega) (by omega)) ?_
      rw [g9d]
      by_cases hd : t.length - 12 < dOf t
      · have d2 : decide (((t.length - 12 : Nat) : Int) < (dOf t : Int)) = true := by simp only [decide_eq_true_eq]; omega
        rw [hshort (by omega)]
        simp (config := {maxSteps := 4000000}) only [U_ref16_ReadAnswer, e0, d2, reduceIte, reduceCtorEq, Nat.reduceEqDiff, Nat.reduceAdd, Int.reduceLT, Int.reduceLE, Int.reduceNeg, Int.reduceEq, Nat.reduceLT, Nat.reduceSub, Nat.reduceMul, Nat.reduceBEq, Nat.reduceLeDiff, Int.reduceBEq, Int.reduceBNe, Int.reduceToNat, ne_eq, implies_true, bA]
        rfl
      · have d2 : decide (((t.length - 12 : Nat) : Int) < (dOf t : Int)) = false := by simp only [decide_eq_false_iff_not]; omega
        have h12 : ¬ t.length < 12 + dOf t := by omega
        obtain ⟨e, he⟩ : ∃ e, e = 12 + dOf t := ⟨_, rfl⟩
        have e9 : IntKind.i64.wrap (12 + (dOf t : Int)) = (e : Int) := by rw [wrapI (by omega) (by omega)]; omega
        have s1 : sstrV (.str t) (some (some 12)) (some (some (e : Int))) = some (.str ((t.take e).drop 12)) := sstrV_both (i := 12) (by omega) (by omega)
        have hD : (t.take e).drop 12 = (t.drop 12).take (dOf t) := by rw [he, List.drop_take, Nat.add_sub_cancel_left]
        rw [hD] at s1
        simp (config := {maxSteps := 4000000}) only [U_ref16_ReadAnswer, e0, d2, reduceIte, reduceCtorEq, Nat.reduceEqDiff, Nat.reduceAdd, Int.reduceLT, Int.reduceLE, Int.reduceNeg, Int.reduceEq, Nat.reduceLT, Nat.reduceSub, Nat.reduceMul, Nat.reduceBEq, Nat.reduceLeDiff, Int.reduceBEq, Int.reduceBNe, Int.reduceToNat, ne_eq, implies_true, bA]
        refine callI (rget_spec16 t 9 2 (by omega) (by omega) (by omega) (by omega)) ?_
        rw [g9d]
        simp (config := {maxSteps := 4000000}) only [U_ref16_ReadAnswer, e9, reduceIte, reduceCtorEq, Nat.reduceEqDiff, Nat.reduceAdd, Int.reduceLT, Int.reduceLE, Int.reduceNeg, Int.reduceEq, Nat.reduceLT, Nat.reduceSub, Nat.reduceMul, Nat.reduceBEq, Nat.reduceLeDiff, Int.reduceBEq, Int.reduceBNe, Int.reduceToNat, ne_eq, implies_true, bA]
        refine callI (rget_spec16 t 0 1 (by omega) (by omega) (by omega) (by omega)) ?_
        simp (config := {maxSteps := 4000000}) only [U_ref16_ReadAnswer, reduceIte, reduceCtorEq, Nat.reduceEqDiff, Nat.reduceAdd, Int.reduceLT, Int.reduceLE, Int.reduceNeg, Int.reduceEq, Nat.reduceLT, Nat.reduceSub, Nat.reduceMul, Nat.reduceBEq, Nat.reduceLeDiff, Int.reduceBEq, Int.reduceBNe, Int.reduceToNat, ne_eq, implies_true, bA]
        refine callI (rget_spec16 t 1 4 (by omega) (by omega) (by omega) (by omega)) ?_
        simp (config := {maxSteps := 4000000}) only [U_ref16_ReadAnswer, reduceIte, reduceCtorEq, Nat.reduceEqDiff, Nat.reduceAdd, Int.reduceLT, Int.reduceLE, Int.reduceNeg, Int.reduceEq, Nat.reduceLT, Nat.reduceSub, Nat.reduceMul, Nat.reduceBEq, Nat.reduceLeDiff, Int.reduceBEq, Int.reduceBNe, Int.reduceToNat, ne_eq, implies_true, bA]
        refine callI (rget_spec16 t 5 4 (by omega) (by omega) (by omega) (by omega)) ?_
        have han : ∀ n, ansN t n = ⟨gS t 0 1, (t.drop 12).take (dOf t), gS t 1 4, gS t 5 4, idsN t (12 + dOf t) n⟩ := fun n => rfl
        have hda : ((t.drop 12).take (dOf t)).length = dOf t := by rw [List.length_take, List.length_drop]; omega
        have hmany : manyA t = min 9 ((t.length - (12 + dOf t) + 1) / 2) := rfl
        generalize manyA t = M at *
        rw [← he] at han hmany h12 hz0
        generalize (t.drop 12).take (dOf t) = D at *
        simp (config := {maxSteps := 4000000}) only [U_ref16_ReadAnswer, s1, reduceIte, reduceCtorEq, Nat.reduceEqDiff, Nat.reduceAdd, Int.reduceLT, Int.reduceLE, Int.reduceNeg, Int.reduceEq, Nat.reduceLT, Nat.reduceSub, Nat.reduceMul, Nat.reduceBEq, Nat.reduceLeDiff, Int.reduceBEq, Int.reduceBNe, Int.reduceToNat, ne_eq, implies_true, bA]
        refine loopF (fun i : Nat => ⟨ofL [(0, .str s), (2, .ref 0 0), (4, .str t), (7, .ref 1 0), (8, .int .i64 ((e + 2 * i : Nat) : Int))], if i = 0 then [.box [.int .i64 0, .str [], .int .i64 0, .int .i64 0, .slc []], .box [.int .i64 (gS t 0 1), .str D, .int .i64 (gS t 1 4), .int .i64 (gS t 5 4), .nils]] else [.box [.int .i64 0, .str [], .int .i64 0, .int .i64 0, .slc []], .box [.int .i64 (gS t 0 1), .str D, .int .i64 (gS t 1 4), .int .i64 (gS t 5 4), .osl 2 0 i], .list 1 (rowsZ .i64 (idsN t e i))]⟩) (fun i => i ≤ M) (fun i => 9 - i) 0 ?_ (Nat.zero_le _) ?_
        · simp (config := {maxSteps := 4000000}) only [U_ref16_ReadAnswer, Nat.mul_zero, Nat.add_zero, if_pos rfl, reduceIte, reduceCtorEq, Nat.reduceEqDiff, Nat.reduceAdd, Int.reduceLT, Int.reduceLE, Int.reduceNeg, Int.reduceEq, Nat.reduceLT, Nat.reduceSub, Nat.reduceMul, Nat.reduceBEq, Nat.reduceLeDiff, Int.reduceBEq, Int.reduceBNe, Int.reduceToNat, ne_eq, implies_true, bA]
          all_goals rfl
        · intro i hi
          have h9 : i ≤ 9 := by omega
          by_cases h : i < M
          · have d : decide (((e + 2 * i : Nat) : Int) < (t.length : Int)) = true := by simp only [decide_eq_true_eq]; omega
            have d9 : decide ((i : Int) < 9) = true := by simp only [decide_eq_true_eq]; omega
            have e1 : IntKind.i64.wrap (((e + 2 * i : Nat) : Int) + 2) = ((e + 2 * (i + 1) : Nat) : Int) := by rw [wrapI (by omega) (by omega)]; omega
            have hsu := idsN_succ t e i
            by_cases hi0 : i = 0
            · subst hi0
              have hgt := rget_spec16 t (e + 2 * 0) 2 (by omega) (by omega) (by omega) (by omega)
              rw [Nat.mul_zero, Nat.add_zero] at d e1 hgt
              have hap0 : ∀ fb, appO [.box [.int .i64 0, .str [], .int .i64 0, .int .i64 0, .slc []], .box [.int .i64 (gS t 0 1), .str D, .int .i64 (gS t 1 4), .int .i64 (gS t 5 4), .nils], .none] fb (some 2) 1 .nils (some [[.int .i64 (gS t e 2)]]) = some (.osl 2 0 1, [.box [.int .i64 0, .str [], .int .i64 0, .int .i64 0, .slc []], .box [.int .i64 (gS t 0 1), .str D, .int .i64 (gS t 1 4), .int .i64 (gS t 5 4), .nils], .list 1 [[.int .i64 (gS t e 2)]]]) := fun fb => appO_nilsA rfl rfl (by simp)
              simp (config := {maxSteps := 4000000}) only [U_ref16_ReadAnswer, d, if_pos rfl, Nat.mul_zero, Nat.add_zero, reduceIte, reduceCtorEq, Nat.reduceEqDiff, Nat.reduceAdd, Int.reduceLT, Int.reduceLE, Int.reduceNeg, Int.reduceEq, Nat.reduceLT, Nat.reduceSub, Nat.reduceMul, Nat.reduceBEq, Nat.reduceLeDiff, Int.reduceBEq, Int.reduceBNe, Int.reduceToNat, ne_eq, implies_true, bA]
              refine callI hgt ?_
              simp (config := {maxSteps := 4000000}) only [U_ref16_ReadAnswer, hap0, e1, reduceIte, reduceCtorEq, Nat.reduceEqDiff, Nat.reduceAdd, Int.reduceLT, Int.reduceLE, Int.reduceNeg, Int.reduceEq, Nat.reduceLT, Nat.reduceSub, Nat.reduceMul, Nat.reduceBEq, Nat.reduceLeDiff, Int.reduceBEq, Int.reduceBNe, Int.reduceToNat, ne_eq, implies_true, bA]
              refine ⟨0 + 1, ?_, by omega, by omega⟩
              show _ = _
              simp only [hsu]
              rfl
            · simp only [if_neg hi0]
              have hap := fun (fb : List Nat) (hf : fb.contains 2 = false) nw => app_Z (k := .i64) (ob := [.box [.int .i64 0, .str [], .int .i64 0, .int .i64 0, .slc []], .box [.int .i64 (gS t 0 1), .str D, .int .i64 (gS t 1 4), .int .i64 (gS t 5 4), .osl 2 0 i], .list 1 (rowsZ .i64 (idsN t e i)), .none]) (fb := fb) (nw := nw) (o := 2) (n := i) (l := idsN t e i) (x := gS t (e + 2 * i) 2) hf rfl (idsN_len _ _ _).symm (by rw [idsN_len]; omega)
              have hll : i = (rowsZ IntKind.i64 (idsN t e i)).length := by rw [rowsZ_len, idsN_len]
              have hro := rowsO_all (e := 1) hll
              simp (config := {maxSteps := 4000000}) only [U_ref16_ReadAnswer, d, d9, hro, rowsZ_len, idsN_len, reduceIte, reduceCtorEq, Nat.reduceEqDiff, Nat.reduceAdd, Int.reduceLT, Int.reduceLE, Int.reduceNeg, Int.reduceEq, Nat.reduceLT, Nat.reduceSub, Nat.reduceMul, Nat.reduceBEq, Nat.reduceLeDiff, Int.reduceBEq, Int.reduceBNe, Int.reduceToNat, ne_eq, implies_true, bA]
              refine callI (rget_spec16 t (e + 2 * i) 2 (by omega) (by omega) (by omega) (by omega)) ?_
              simp (config := {maxSteps := 4000000}) only [U_ref16_ReadAnswer, hap, e1, reduceIte, reduceCtorEq, Nat.reduceEqDiff, Nat.reduceAdd, Int.reduceLT, Int.reduceLE, Int.reduceNeg, Int.reduceEq, Nat.reduceLT, Nat.reduceSub, Nat.reduceMul, Nat.reduceBEq, Nat.reduceLeDiff, Int.reduceBEq, Int.reduceBNe, Int.reduceToNat, ne_eq, implies_true, bA]
              refine ⟨i + 1, ?_, by omega, by omega⟩
              rw [hsu, if_neg (by omega)]
          · have : i = M := by omega
            subst this
            have hi0 : ¬ i = 0 := by omega
            have hA := ranswer_spec (ansN t i) (by rw [han]; show D.length ≤ _; omega) (by rw [han]; show (idsN _ _ _).length ≤ _; rw [idsN_len]; omega)
            have hpa : pA (ansN t i) = .agg [.int .i64 (gS t 0 1), .str D, .int .i64 (gS t 1 4), .int .i64 (gS t 5 4), .slc (rowsZ .i64 (idsN t e i))] := by rw [han]; rfl
            have hll : i = (rowsZ IntKind.i64 (idsN t e i)).length := by rw [rowsZ_len, idsN_len]
            have hro := rowsO_all (e := 1) hll
            simp only [if_neg hi0]
            by_cases hend : e + 2 * i < t.length
            · have d : decide (((e + 2 * i : Nat) : Int) < (t.length : Int)) = true := by simp only [decide_eq_true_eq]; omega
              have d9 : decide ((i : Int) < 9) = false := by simp only [decide_eq_false_iff_not]; omega
              rcases writeA_cases (ansN t i) t s hz with ⟨g1, g2, g3⟩ | ⟨g1, g2⟩
              · rw [hyes (by rw [← he]; exact h12) (show goodA t i from ⟨g1, g2⟩)]
                have g4 : (s == s) = true := by simp
                rw [g3, hpa] at hA
                simp (config := {maxSteps := 4000000}) only [U_ref16_ReadAnswer, d, d9, hro, rowsZ_len, idsN_len, reduceIte, reduceCtorEq, Nat.reduceEqDiff, Nat.reduceAdd, Int.reduceLT, Int.reduceLE, Int.reduceNeg, Int.reduceEq, Nat.reduceLT, Nat.reduceSub, Nat.reduceMul, Nat.reduceBEq, Nat.reduceLeDiff, Int.reduceBEq, Int.reduceBNe, Int.reduceToNat, ne_eq, implies_true, bA]
                refine callS hA rfl ?_
                rw [hpa]
                simp (config := {maxSteps := 4000000}) only [U_ref16_ReadAnswer, g4, hro, reduceIte, reduceCtorEq, Nat.reduceEqDiff, Nat.reduceAdd, Int.reduceLT, Int.reduceLE, Int.reduceNeg, Int.reduceEq, Nat.reduceLT, Nat.reduceSub, Nat.reduceMul, Nat.reduceBEq, Nat.reduceLeDiff, Int.reduceBEq, Int.reduceBNe, Int.reduceToNat, ne_eq, implies_true, bA]
              · rw [hno (by rw [← he]; exact h12) g1]
                rw [hpa] at hA
                simp (config := {maxSteps := 4000000}) only [U_ref16_ReadAnswer, d, d9, hro, rowsZ_len, idsN_len, reduceIte, reduceCtorEq, Nat.reduceEqDiff, Nat.reduceAdd, Int.reduceLT, Int.reduceLE, Int.reduceNeg, Int.reduceEq, Nat.reduceLT, Nat.reduceSub, Nat.reduceMul, Nat.reduceBEq, Nat.reduceLeDiff, Int.reduceBEq, Int.reduceBNe, Int.reduceToNat, ne_eq, implies_true, bA]
                refine callS hA rfl ?_
                rcases g2 with g2 | ⟨g2, g3⟩
                · simp (config := {maxSteps := 4000000}) only [U_ref16_ReadAnswer, g2, reduceIte, reduceCtorEq, Nat.reduceEqDiff, Nat.reduceAdd, Int.reduceLT, Int.reduceLE, Int.reduceNeg, Int.reduceEq, Nat.reduceLT, Nat.reduceSub, Nat.reduceMul, Nat.reduceBEq, Nat.reduceLeDiff, Int.reduceBEq, Int.reduceBNe, Int.reduceToNat, ne_eq, implies_true, bA]
                  rfl
                · simp (config := {maxSteps := 4000000}) only [U_ref16_ReadAnswer, g2, g3, reduceIte, reduceCtorEq, Nat.reduceEqDiff, Nat.reduceAdd, Int.reduceLT, Int.reduceLE, Int.reduceNeg, Int.reduceEq, Nat.reduceLT, Nat.reduceSub, Nat.reduceMul, Nat.reduceBEq, Nat.reduceLeDiff, Int.reduceBEq, Int.reduceBNe, Int.reduceToNat, ne_eq, implies_true, bA]
                  rfl
            · have d : decide (((e + 2 * i : Nat) : Int) < (t.length : Int)) = false := by simp only [decide_eq_false_iff_not]; omega
              rcases writeA_cases (ansN t i) t s hz with ⟨g1, g2, g3⟩ | ⟨g1, g2⟩
              · rw [hyes (by rw [← he]; exact h12) (show goodA t i from ⟨g1, g2⟩)]
                have g4 : (s == s) = true := by simp
                rw [g3, hpa] at hA
                simp (config := {maxSteps := 4000000}) only [U_ref16_ReadAnswer, d, hro, rowsZ_len, idsN_len, reduceIte, reduceCtorEq, Nat.reduceEqDiff, Nat.reduceAdd, Int.reduceLT, Int.reduceLE, Int.reduceNeg, Int.reduceEq, Nat.reduceLT, Nat.reduceSub, Nat.reduceMul, Nat.reduceBEq, Nat.reduceLeDiff, Int.reduceBEq, Int.reduceBNe, Int.reduceToNat, ne_eq, implies_true, bA]
                refine callS hA rfl ?_
                rw [hpa]
                simp (config := {maxSteps := 4000000}) only [U_ref16_ReadAnswer, g4, hro, reduceIte, reduceCtorEq, Nat.reduceEqDiff, Nat.reduceAdd, Int.reduceLT, Int.reduceLE, Int.reduceNeg, Int.reduceEq, Nat.reduceLT, Nat.reduceSub, Nat.reduceMul, Nat.reduceBEq, Nat.reduceLeDiff, Int.reduceBEq, Int.reduceBNe, Int.reduceToNat, ne_eq, implies_true, bA]
              · rw [hno (by rw [← he]; exact h12) g1]
                rw [hpa] at hA
                simp (config := {maxSteps := 4000000}) only [U_ref16_ReadAnswer, d, hro, rowsZ_len, idsN_len, reduceIte, reduceCtorEq, Nat.reduceEqDiff, Nat.reduceAdd, Int.reduceLT, Int.reduceLE, Int.reduceNeg, Int.reduceEq, Nat.reduceLT, Nat.reduceSub, Nat.reduceMul, Nat.reduceBEq, Nat.reduceLeDiff, Int.reduceBEq, Int.reduceBNe, Int.reduceToNat, ne_eq, implies_true, bA]
                refine callS hA rfl ?_
                rcases g2 with g2 | ⟨g2, g3⟩
                · simp (config := {maxSteps := 4000000}) only [U_ref16_ReadAnswer, g2, reduceIte, reduceCtorEq, Nat.reduceEqDiff, Nat.reduceAdd, Int.reduceLT, Int.reduceLE, Int.reduceNeg, Int.reduceEq, Nat.reduceLT, Nat.reduceSub, Nat.reduceMul, Nat.reduceBEq, Nat.reduceLeDiff, Int.reduceBEq, Int.reduceBNe, Int.reduceToNat, ne_eq, implies_true, bA]
                  rfl
                · simp (config := {maxSteps := 4000000}) only [U_ref16_ReadAnswer, g2, g3, reduceIte, reduceCtorEq, Nat.reduceEqDiff, Nat.reduceAdd, Int.reduceLT, Int.reduceLE, Int.reduceNeg, Int.reduceEq, Nat.reduceLT, Nat.reduceSub, Nat.reduceMul, Nat.reduceBEq, Nat.reduceLeDiff, Int.reduceBEq, Int.reduceBNe, Int.reduceToNat, ne_eq, implies_true, bA]
                  rfl
  · have d0 : ((openS s).2 != 0) = true := by simpa using h0
    rw [readA_err h0]
    simp (config := {maxSteps := 4000000}) only [U_ref16_ReadAnswer, d0, reduceIte, reduceCtorEq, Nat.reduceEqDiff, Nat.reduceAdd, Int.reduceLT, Int.reduceLE, Int.reduceNeg, Int.reduceEq, Nat.reduceLT, Nat.reduceSub, Nat.reduceMul, Nat.reduceBEq, Nat.reduceLeDiff, Int.reduceBEq, Int.reduceBNe, Int.reduceToNat, ne_eq, implies_true, bA]
    rfl
theorem rra_zero_ids {s : List UInt8} (hz0 : (openS s).1.length ≤ 12 + dOf (openS s).1) : (readA s).1.ids = [] := by
  unfold readA
  split
  · rfl
  · split
    · rfl
    · rename_i h2
      split
      · rw [ansN, show manyA (openS s).1 = 0 by rw [manyA]; omega, idsN_zero]
      · rfl
theorem rra_spec (s : List UInt8) (hs : s.length ≤ 1000000) : PCall Try.prog 20 [.str s] (.tup [pA (readA s).1, .int .i64 (readA s).2]) := by
  by_cases hz0 : (openS s).1.length ≤ 12 + dOf (openS s).1
  · exact (rra_zero s hs hz0).nzR (nz_ans fun h => rra_zero_ids hz0)
  · exact rra_pos s hs (by omega)
theorem sameA_spec (a b : Rp) (ha : a.ids.length ≤ 1000) (hb : b.ids.length ≤ 1000) : PCall Try.prog 21 [pA a, pA b] (.bool (decide (a = b))) := by
  refine pcall_go Try.func21 comp_ref16_Same ?_
  obtain ⟨e1, d1, s1, u1, l1⟩ := a
  obtain ⟨e2, d2, s2, u2, l2⟩ := b
  simp only [] at ha hb
  by_cases w0 : e1 = e2
  · have x0 : (e1 != e2) = false := bne_eq_false_iff_eq.2 w0
    by_cases w1 : d1 = d2
    · have x1 : (d1 == d2) = true := beq_iff_eq.2 w1
      by_cases w2 : s1 = s2
      · have x2 : (s1 != s2) = false := bne_eq_false_iff_eq.2 w2
        by_cases w3 : u1 = u2
        · have x3 : (u1 != u2) = false := bne_eq_false_iff_eq.2 w3
          by_cases w4 : (l1.length : Int) = (l2.length : Int)
          · have x4 : ((l1.length : Int) != (l2.length : Int)) = false := bne_eq_false_iff_eq.2 w4
            simp (config := {maxSteps := 4000000}) only [U_ref16_Same, rowA, x0, x1, x2, x3, x4, reduceIte, reduceCtorEq, Nat.reduceEqDiff, Nat.reduceAdd, Int.reduceLT, Int.reduceLE, Int.reduceNeg, Int.reduceEq, Nat.reduceLT, Nat.reduceSub, Nat.reduceMul, Nat.reduceBEq, Nat.reduceLeDiff, Int.reduceBEq, Int.reduceBNe, Int.reduceToNat, ne_eq, implies_true, bA]
            refine loopF (fun i : Nat => ⟨ofL [(2, .ref 0 0), (3, .ref 1 0), (5, .int .i64 i)], [.box (rowA ⟨e1, d1, s1, u1, l1⟩), .box (rowA ⟨e2, d2, s2, u2, l2⟩)]⟩) (fun i => i ≤ l1.length ∧ l1.take i = l2.take i) (fun i => l1.length - i) 0 ?_ ⟨Nat.zero_le _, by simp⟩ ?_
            · simp (config := {maxSteps := 4000000}) only [U_ref16_Same, rowA, reduceIte, reduceCtorEq, Nat.reduceEqDiff, Nat.reduceAdd, Int.reduceLT, Int.reduceLE, Int.reduceNeg, Int.reduceEq, Nat.reduceLT, Nat.reduceSub, Nat.reduceMul, Nat.reduceBEq, Nat.reduceLeDiff, Int.reduceBEq, Int.reduceBNe, Int.reduceToNat, ne_eq, implies_true, bA]
              all_goals rfl
            · intro i ⟨hi, he⟩
              have hll : l1.length = l2.length := by omega
              by_cases h1 : i < l1.length
              · have d1 : decide ((i : Int) < (l1.length : Int)) = true := by simpa using h1
                have h2 : i < l2.length := by omega
                have e1 : IntKind.i64.wrap ((i : Int) + 1) = ((i + 1 : Nat) : Int) := by rw [wrapI (by omega) (by omega)]; omega
                by_cases h3 : l1[i] = l2[i]
                · have d3 : (l1[i] != l2[i]) = false := bne_eq_false_iff_eq.2 h3
                  simp (config := {maxSteps := 4000000}) only [U_ref16_Same, rowA, d1, islV_Z h1, islV_Z h2, d3, e1, reduceIte, reduceCtorEq, Nat.reduceEqDiff, Nat.reduceAdd, Int.reduceLT, Int.reduceLE, Int.reduceNeg, Int.reduceEq, Nat.reduceLT, Nat.reduceSub, Nat.reduceMul, Nat.reduceBEq, Nat.reduceLeDiff, Int.reduceBEq, Int.reduceBNe, Int.reduceToNat, ne_eq, implies_true, bA]
                  refine ⟨i + 1, rfl, ⟨h1, ?_⟩, by omega⟩
                  rw [List.take_succ_eq_append_getElem h1, List.take_succ_eq_append_getElem h2, he, h3]
                · have d3 : (l1[i] != l2[i]) = true := bne_iff_ne.2 h3
                  simp (config := {maxSteps := 4000000}) only [U_ref16_Same, rowA, d1, islV_Z h1, islV_Z h2, d3, reduceIte, reduceCtorEq, Nat.reduceEqDiff, Nat.reduceAdd, Int.reduceLT, Int.reduceLE, Int.reduceNeg, Int.reduceEq, Nat.reduceLT, Nat.reduceSub, Nat.reduceMul, Nat.reduceBEq, Nat.reduceLeDiff, Int.reduceBEq, Int.reduceBNe, Int.reduceToNat, ne_eq, implies_true, bA]
                  have : l1 ≠ l2 := fun e => h3 (by subst e; rfl)
                  simp [Rp.mk.injEq, this]
              · have d1 : decide ((i : Int) < (l1.length : Int)) = false := by simpa using h1
                simp (config := {maxSteps := 4000000}) only [U_ref16_Same, rowA, d1, reduceIte, reduceCtorEq, Nat.reduceEqDiff, Nat.reduceAdd, Int.reduceLT, Int.reduceLE, Int.reduceNeg, Int.reduceEq, Nat.reduceLT, Nat.reduceSub, Nat.reduceMul, Nat.reduceBEq, Nat.reduceLeDiff, Int.reduceBEq, Int.reduceBNe, Int.reduceToNat, ne_eq, implies_true, bA]
                have : l1 = l2 := by
                  rw [List.take_of_length_le (by omega), List.take_of_length_le (by omega)] at he
                  exact he
                simp [Rp.mk.injEq, this, w0, w1, w2, w3]
          · have x4 : ((l1.length : Int) != (l2.length : Int)) = true := bne_iff_ne.2 w4
            simp (config := {maxSteps := 4000000}) only [U_ref16_Same, rowA, x0, x1, x2, x3, x4, reduceIte, reduceCtorEq, Nat.reduceEqDiff, Nat.reduceAdd, Int.reduceLT, Int.reduceLE, Int.reduceNeg, Int.reduceEq, Nat.reduceLT, Nat.reduceSub, Nat.reduceMul, Nat.reduceBEq, Nat.reduceLeDiff, Int.reduceBEq, Int.reduceBNe, Int.reduceToNat, ne_eq, implies_true, bA]
            have hne : l1 ≠ l2 := fun h => w4 (by rw [h])
            simp [Rp.mk.injEq, hne]
        · have x3 : (u1 != u2) = true := bne_iff_ne.2 w3
          simp (config := {maxSteps := 4000000}) only [U_ref16_Same, rowA, x0, x1, x2, x3, reduceIte, reduceCtorEq, Nat.reduceEqDiff, Nat.reduceAdd, Int.reduceLT, Int.reduceLE, Int.reduceNeg, Int.reduceEq, Nat.reduceLT, Nat.reduceSub, Nat.reduceMul, Nat.reduceBEq, Nat.reduceLeDiff, Int.reduceBEq, Int.reduceBNe, Int.reduceToNat, ne_eq, implies_true, bA]
          simp [Rp.mk.injEq, w0, w1, w2, w3]
      · have x2 : (s1 != s2) = true := bne_iff_ne.2 w2
        simp (config := {maxSteps := 4000000}) only [U_ref16_Same, rowA, x0, x1, x2, reduceIte, reduceCtorEq, Nat.reduceEqDiff, Nat.reduceAdd, Int.reduceLT, Int.reduceLE, Int.reduceNeg, Int.reduceEq, Nat.reduceLT, Nat.reduceSub, Nat.reduceMul, Nat.reduceBEq, Nat.reduceLeDiff, Int.reduceBEq, Int.reduceBNe, Int.reduceToNat, ne_eq, implies_true, bA]
        simp [Rp.mk.injEq, w0, w1, w2]
    · have x1 : (d1 == d2) = false := beq_eq_false_iff_ne.2 w1
      simp (config := {maxSteps := 4000000}) only [U_ref16_Same, rowA, x0, x1, reduceIte, reduceCtorEq, Nat.reduceEqDiff, Nat.reduceAdd, Int.reduceLT, Int.reduceLE, Int.reduceNeg, Int.reduceEq, Nat.reduceLT, Nat.reduceSub, Nat.reduceMul, Nat.reduceBEq, Nat.reduceLeDiff, Int.reduceBEq, Int.reduceBNe, Int.reduceToNat, ne_eq, implies_true, bA]
      simp [Rp.mk.injEq, w0, w1]
  · have x0 : (e1 != e2) = true := bne_iff_ne.2 w0
    simp (config := {maxSteps := 4000000}) only [U_ref16_Same, rowA, x0, reduceIte, reduceCtorEq, Nat.reduceEqDiff, Nat.reduceAdd, Int.reduceLT, Int.reduceLE, Int.reduceNeg, Int.reduceEq, Nat.reduceLT, Nat.reduceSub, Nat.reduceMul, Nat.reduceBEq, Nat.reduceLeDiff, Int.reduceBEq, Int.reduceBNe, Int.reduceToNat, ne_eq, implies_true, bA]
    simp [Rp.mk.injEq, w0]
end Go.Proofs.Ytoofeppepahpfaa.Aw
