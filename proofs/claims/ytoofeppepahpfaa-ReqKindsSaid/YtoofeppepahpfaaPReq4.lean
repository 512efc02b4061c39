/-
  What the functions of the package 'req' compute, and the document's: reading answers; the same answers.
-/
import Derived.Test.YtoofeppepahpfaaPReq3
import Derived.Test.YtoofeppepahpfaaAwFit
set_option linter.unusedSimpArgs false
set_option linter.unusedVariables false
namespace Go.Proofs.Ytoofeppepahpfaa.Aw
open Go.RowKit

theorem take_ans (t : List UInt8) (h : 12 ≤ t.length) : takeS t [1, 4, 4, 2, 1] = ([leN ((t.drop 0).take 1), leN ((t.drop 1).take 4), leN ((t.drop 5).take 4), leN ((t.drop 9).take 2), leN ((t.drop 11).take 1)], t.drop 12, 0) := by
  have b1 : badW [1, 4, 4, 2, 1] = false := by decide
  rw [takeS_ok b1, goOn_one (by show ¬ t.length < 1; omega), goOn_one (by simp; omega), goOn_one (by simp; omega), goOn_one (by simp; omega), goOn_one (by simp; omega), goOn_nil]
  simp [List.drop_drop]
theorem take_ans_no (t : List UInt8) (h : t.length < 12) : takeS t [1, 4, 4, 2, 1] = ([], [], 5) := takeS_short (by decide) (by simpa using h)
theorem take_two (t : List UInt8) (h : 2 ≤ t.length) : takeS t [2] = ([leN (t.take 2)], t.drop 2, 0) := by
  have b1 : badW [2] = false := by decide
  rw [takeS_ok b1, goOn_one (by simpa using h), goOn_nil]; simp
theorem take_two_no (t : List UInt8) (h : t.length < 2) : takeS t [2] = ([], [], 5) := takeS_short (by decide) (by simpa using h)
/-- An answer with no list of numbers at all. -/
def rowN (a : Rp) : List PV := [.int .i64 a.er, .str a.da, .int .i64 a.sz, .int .i64 a.us, .nils]
theorem writeA_cases (a : Rp) (t s : List UInt8) (hz : sealS t = s) : (mayA a = true ∧ bodyA a = t ∧ writeA a = (s, 0)) ∨ (¬ (mayA a = true ∧ bodyA a = t) ∧ (((writeA a).2 != 0) = true ∨ (((writeA a).2 != 0) = false ∧ ((writeA a).1 == s) = false))) := by
  by_cases hm : mayA a = true
  · have hw : writeA a = (sealS (bodyA a), 0) := by rw [writeA, if_pos hm]
    by_cases hb : bodyA a = t
    · exact .inl ⟨hm, hb, by rw [hw, hb, hz]⟩
    · refine .inr ⟨fun h => hb h.2, .inr ⟨by rw [hw]; rfl, ?_⟩⟩
      rw [hw, beq_eq_false_iff_ne]; intro h; rw [← hz] at h; exact hb (seal_inj h)
  · refine .inr ⟨fun h => hm h.1, .inl ?_⟩
    rw [writeA, if_neg hm]; rfl
theorem ra_zero (s : List UInt8) (hs : s.length ≤ 1000000) (hz0 : gS (openS s).1 11 1 = 0) : PCall Try.prog 19 [.str s] (.tup [if (readA s).2 = 0 then .agg (rowN (readA s).1) else pA zeroA, .int .i64 (readA s).2]) := by
  refine pcall_go Try.func19 comp_req_ReadAnswer ?_
  simp (config := {maxSteps := 4000000}) only [U_req_ReadAnswer, reduceIte, reduceCtorEq, Nat.reduceEqDiff, Nat.reduceAdd, Int.reduceLT, Int.reduceLE, Int.reduceNeg, Int.reduceEq, Nat.reduceLT, Nat.reduceSub, Nat.reduceMul, Nat.reduceBEq, Nat.reduceLeDiff, Int.reduceBEq, Int.reduceBNe, Int.reduceToNat, ne_eq, implies_true, bA]
  refine callI (open_spec s hs) ?_
  by_cases h0 : (openS s).2 = 0
  · have d0 : ((openS s).2 != 0) = false := by simpa using h0
    have hol := open_len s
    have hyes := fun h {n : Nat} (h3 : goodA (openS s).1 n) => readA_yes h0 h h3
    have hno := readA_no h0
    have hshort := readA_short h0
    have hz := open_zero h0
    generalize (openS s).1 = t at hol hyes hno hshort hz hz0
    simp (config := {maxSteps := 4000000}) only [U_req_ReadAnswer, d0, reduceIte, reduceCtorEq, Nat.reduceEqDiff, Nat.reduceAdd, Int.reduceLT, Int.reduceLE, Int.reduceNeg, Int.reduceEq, Nat.reduceLT, Nat.reduceSub, Nat.reduceMul, Nat.reduceBEq, Nat.reduceLeDiff, Int.reduceBEq, Int.reduceBNe, Int.reduceToNat, ne_eq, implies_true, bA]
    refine callI back_spec ?_
    simp (config := {maxSteps := 4000000}) only [U_req_ReadAnswer, reduceIte, reduceCtorEq, Nat.reduceEqDiff, Nat.reduceAdd, Int.reduceLT, Int.reduceLE, Int.reduceNeg, Int.reduceEq, Nat.reduceLT, Nat.reduceSub, Nat.reduceMul, Nat.reduceBEq, Nat.reduceLeDiff, Int.reduceBEq, Int.reduceBNe, Int.reduceToNat, ne_eq, implies_true, bA]
    refine callI (take_spec t [1, 4, 4, 2, 1] (by omega) (by simp)) ?_
    by_cases hl12 : t.length < 12
    · rw [hshort (by omega), take_ans_no t hl12]
      simp (config := {maxSteps := 4000000}) only [U_req_ReadAnswer, reduceIte, reduceCtorEq, Nat.reduceEqDiff, Nat.reduceAdd, Int.reduceLT, Int.reduceLE, Int.reduceNeg, Int.reduceEq, Nat.reduceLT, Nat.reduceSub, Nat.reduceMul, Nat.reduceBEq, Nat.reduceLeDiff, Int.reduceBEq, Int.reduceBNe, Int.reduceToNat, ne_eq, implies_true, bA]
      rfl
    · rw [take_ans t (by omega)]
      have hd2 : dOf t = leN ((t.drop 9).take 2) := by rw [dOf, ← gS_take (t := t) (a := 9) (w := 2) (by decide) (by decide) (by omega)]; rfl
      have n1 := gS_take (t := t) (a := 0) (w := 1) (by decide) (by decide) (by omega)
      have n2 := gS_take (t := t) (a := 1) (w := 4) (by decide) (by decide) (by omega)
      have n3 := gS_take (t := t) (a := 5) (w := 4) (by decide) (by decide) (by omega)
      have n5 := gS_take (t := t) (a := 11) (w := 1) (by decide) (by decide) (by omega)
      have b1 := numT t 0 1 (by omega)
      have b2 := numT t 1 4 (by omega)
      have b3 := numT t 5 4 (by omega)
      have b4 := numT t 9 2 (by omega)
      have b5 := numT t 11 1 (by omega)
      have han : ∀ n, ansN t n = ⟨gS t 0 1, (t.drop 12).take (dOf t), gS t 1 4, gS t 5 4, idsN t (12 + dOf t) n⟩ := fun n => rfl
      rw [← n1, ← n2, ← n3] at han
      rw [← n5] at hz0
      have hshape := fun n (h : 12 + dOf t ≤ t.length) (h2 : goodA t n) => goodA_shape h h2
      have hmany := fun (h : 12 + dOf t ≤ t.length) (h2 : goodA t (manyA t)) => (goodA_many h h2).1
      rw [← n5] at hshape
      clear n1 n2 n3 n5
      generalize leN ((t.drop 0).take 1) = m1 at *
      generalize leN ((t.drop 1).take 4) = m2 at *
      generalize leN ((t.drop 5).take 4) = m3 at *
      generalize leN ((t.drop 9).take 2) = m4 at *
      generalize leN ((t.drop 11).take 1) = m5 at *
      have i0 : ∀ ob fb, islV ob fb 1 (.slc (rowsN .u64 [m1, m2, m3, m4, m5])) (.int .i64 0) = some (.fptr [.int .u64 (m1 : Int)]) := fun _ _ => rfl
      have i1 : ∀ ob fb, islV ob fb 1 (.slc (rowsN .u64 [m1, m2, m3, m4, m5])) (.int .i64 1) = some (.fptr [.int .u64 (m2 : Int)]) := fun _ _ => rfl
      have i2 : ∀ ob fb, islV ob fb 1 (.slc (rowsN .u64 [m1, m2, m3, m4, m5])) (.int .i64 2) = some (.fptr [.int .u64 (m3 : Int)]) := fun _ _ => rfl
      have i3 : ∀ ob fb, islV ob fb 1 (.slc (rowsN .u64 [m1, m2, m3, m4, m5])) (.int .i64 3) = some (.fptr [.int .u64 (m4 : Int)]) := fun _ _ => rfl
      have i4 : ∀ ob fb, islV ob fb 1 (.slc (rowsN .u64 [m1, m2, m3, m4, m5])) (.int .i64 4) = some (.fptr [.int .u64 (m5 : Int)]) := fun _ _ => rfl
      have c1 : IntKind.i64.wrap (m1 : Int) = (m1 : Int) := wrapI (by omega) (by omega)
      have c2 : IntKind.i64.wrap (m2 : Int) = (m2 : Int) := wrapI (by omega) (by omega)
      have c3 : IntKind.i64.wrap (m3 : Int) = (m3 : Int) := wrapI (by omega) (by omega)
      have hrl : (t.drop 12).length = t.length - 12 := by simp
      have eB : IntKind.u64.wrap ((t.drop 12).length : Int) = ((t.drop 12).length : Int) := wrapU (by omega) (by omega)
      by_cases hd : (t.drop 12).length < m4
      · have d1 : decide (((t.drop 12).length : Int) < (m4 : Int)) = true := by simp only [decide_eq_true_eq]; omega
        rw [hshort (by omega)]
        simp (config := {maxSteps := 4000000}) only [U_req_ReadAnswer, i3, eB, d1, reduceIte, reduceCtorEq, Nat.reduceEqDiff, Nat.reduceAdd, Int.reduceLT, Int.reduceLE, Int.reduceNeg, Int.reduceEq, Nat.reduceLT, Nat.reduceSub, Nat.reduceMul, Nat.reduceBEq, Nat.reduceLeDiff, Int.reduceBEq, Int.reduceBNe, Int.reduceToNat, ne_eq, implies_true, bA]
        rfl
      · have d1 : decide (((t.drop 12).length : Int) < (m4 : Int)) = false := by simp only [decide_eq_false_iff_not]; omega
        have h12 : ¬ t.length < 12 + dOf t := by omega
        have s1 : sstrV (.str (t.drop 12)) (some none) (some (some (m4 : Int))) = some (.str ((t.drop 12).take m4)) := sstrV_to (by omega)
        have s2 : sstrV (.str (t.drop 12)) (some (some (m4 : Int))) (some none) = some (.str ((t.drop 12).drop m4)) := sstrV_from (by omega)
        have hRl : ((t.drop 12).drop m4).length = t.length - (12 + m4) := by rw [List.length_drop, List.length_drop]; omega
        have hR : (t.drop 12).drop m4 = t.drop (12 + m4) := by rw [List.drop_drop]
        have hda : ((t.drop 12).take m4).length = m4 := by simp; omega
        rw [hd2] at han h12 hshape hmany
        generalize (t.drop 12).drop m4 = R at *
        generalize (t.drop 12).take m4 = D at *
        generalize t.drop 12 = T at *
        have hm5 : m5 = 0 := by omega
        subst hm5
        simp (config := {maxSteps := 4000000}) only [U_req_ReadAnswer, i0, i1, i2, i3, i4, c1, c2, c3, eB, d1, s1, s2, reduceIte, reduceCtorEq, Nat.reduceEqDiff, Nat.reduceAdd, Int.reduceLT, Int.reduceLE, Int.reduceNeg, Int.reduceEq, Nat.reduceLT, Nat.reduceSub, Nat.reduceMul, Nat.reduceBEq, Nat.reduceLeDiff, Int.reduceBEq, Int.reduceBNe, Int.reduceToNat, ne_eq, implies_true, bA]
        refine loopF (fun _ : Unit => ⟨ofL [(0, .str s), (2, .ref 0 0), (7, .str R), (8, .ref 1 0), (67, .int .u64 0), (68, .int .u64 0)], [.box [.int .i64 0, .str [], .int .i64 0, .int .i64 0, .slc []], .box [.int .i64 (m1 : Int), .str D, .int .i64 (m2 : Int), .int .i64 (m3 : Int), .nils]]⟩) (fun _ => True) (fun _ => 0) () ?_ trivial ?_
        · simp (config := {maxSteps := 4000000}) only [U_req_ReadAnswer, reduceIte, reduceCtorEq, Nat.reduceEqDiff, Nat.reduceAdd, Int.reduceLT, Int.reduceLE, Int.reduceNeg, Int.reduceEq, Nat.reduceLT, Nat.reduceSub, Nat.reduceMul, Nat.reduceBEq, Nat.reduceLeDiff, Int.reduceBEq, Int.reduceBNe, Int.reduceToNat, ne_eq, implies_true, bA]
          all_goals rfl
        · intro _ _
          have hA := PCall.nzA (args' := [.agg [.int .i64 (m1 : Int), .str D, .int .i64 (m2 : Int), .int .i64 (m3 : Int), .nils]]) (answer_spec (ansN t 0) (by rw [han]; show D.length ≤ _; omega) (by rw [han]; simp [idsN_zero])) (by rw [han]; rfl)
          rcases writeA_cases (ansN t 0) t s hz with ⟨g1, g2, g3⟩ | ⟨g1, g2⟩
          · rw [hyes (by rw [hd2]; exact h12) (show goodA t 0 from ⟨g1, g2⟩)]
            have g4 : (s == s) = true := by simp
            rw [g3] at hA
            simp (config := {maxSteps := 4000000}) only [U_req_ReadAnswer, reduceIte, reduceCtorEq, Nat.reduceEqDiff, Nat.reduceAdd, Int.reduceLT, Int.reduceLE, Int.reduceNeg, Int.reduceEq, Nat.reduceLT, Nat.reduceSub, Nat.reduceMul, Nat.reduceBEq, Nat.reduceLeDiff, Int.reduceBEq, Int.reduceBNe, Int.reduceToNat, ne_eq, implies_true, bA]
            refine callI hA ?_
            simp (config := {maxSteps := 4000000}) only [U_req_ReadAnswer, g4, reduceIte, reduceCtorEq, Nat.reduceEqDiff, Nat.reduceAdd, Int.reduceLT, Int.reduceLE, Int.reduceNeg, Int.reduceEq, Nat.reduceLT, Nat.reduceSub, Nat.reduceMul, Nat.reduceBEq, Nat.reduceLeDiff, Int.reduceBEq, Int.reduceBNe, Int.reduceToNat, ne_eq, implies_true, bA]
            rw [han]; rfl
          · rw [hno (by rw [hd2]; exact h12) (fun h => g1 (by
              have := hshape _ (by omega) h
              rw [show manyA t = 0 by omega] at h
              exact h))]
            simp (config := {maxSteps := 4000000}) only [U_req_ReadAnswer, reduceIte, reduceCtorEq, Nat.reduceEqDiff, Nat.reduceAdd, Int.reduceLT, Int.reduceLE, Int.reduceNeg, Int.reduceEq, Nat.reduceLT, Nat.reduceSub, Nat.reduceMul, Nat.reduceBEq, Nat.reduceLeDiff, Int.reduceBEq, Int.reduceBNe, Int.reduceToNat, ne_eq, implies_true, bA]
            refine callI hA ?_
            rcases g2 with g2 | ⟨g2, g3⟩
            · simp (config := {maxSteps := 4000000}) only [U_req_ReadAnswer, g2, reduceIte, reduceCtorEq, Nat.reduceEqDiff, Nat.reduceAdd, Int.reduceLT, Int.reduceLE, Int.reduceNeg, Int.reduceEq, Nat.reduceLT, Nat.reduceSub, Nat.reduceMul, Nat.reduceBEq, Nat.reduceLeDiff, Int.reduceBEq, Int.reduceBNe, Int.reduceToNat, ne_eq, implies_true, bA]
              rfl
            · simp (config := {maxSteps := 4000000}) only [U_req_ReadAnswer, g2, g3, reduceIte, reduceCtorEq, Nat.reduceEqDiff, Nat.reduceAdd, Int.reduceLT, Int.reduceLE, Int.reduceNeg, Int.reduceEq, Nat.reduceLT, Nat.reduceSub, Nat.reduceMul, Nat.reduceBEq, Nat.reduceLeDiff, Int.reduceBEq, Int.reduceBNe, Int.reduceToNat, ne_eq, implies_true, bA]
              rfl
  · have d0 : ((openS s).2 != 0) = true := by simpa using h0
    rw [readA_err h0]
    simp (config := {maxSteps := 4000000}) only [U_req_ReadAnswer, d0, reduceIte, reduceCtorEq, Nat.reduceEqDiff, Nat.reduceAdd, Int.reduceLT, Int.reduceLE, Int.reduceNeg, Int.reduceEq, Nat.reduceLT, Nat.reduceSub, Nat.reduceMul, Nat.reduceBEq, Nat.reduceLeDiff, Int.reduceBEq, Int.reduceBNe, Int.reduceToNat, ne_eq, implies_true, bA]
    rw [if_neg h0]; rfl
theorem ra_pos (s : List UInt8) (hs : s.length ≤ 1000000) (hz0 : gS (openS s).1 11 1 ≠ 0) : PCall Try.prog 19 [.str s] (.tup [pA (readA s).1, .int .i64 (readA s).2]) := by
  refine pcall_go Try.func19 comp_req_ReadAnswer ?_
  simp (config := {maxSteps := 4000000}) only [U_req_ReadAnswer, reduceIte, reduceCtorEq, Nat.reduceEqDiff, Nat.reduceAdd, Int.reduceLT, Int.reduceLE, Int.reduceNeg, Int.reduceEq, Nat.reduceLT, Nat.reduceSub, Nat.reduceMul, Nat.reduceBEq, Nat.reduceLeDiff, Int.reduceBEq, Int.reduceBNe, Int.reduceToNat, ne_eq, implies_true, bA]
  refine callI (open_spec s hs) ?_
  by_cases h0 : (openS s).2 = 0
  · have d0 : ((openS s).2 != 0) = false := by simpa using h0
    have hol := open_len s
    have hyes := fun h {n : Nat} (h3 : goodA (openS s).1 n) => readA_yes h0 h h3
    have hno := readA_no h0
    have hshort := readA_short h0
    have hz := open_zero h0
    generalize (openS s).1 = t at hol hyes hno hshort hz hz0
    simp (config := {maxSteps := 4000000}) only [U_req_ReadAnswer, d0, reduceIte, reduceCtorEq, Nat.reduceEqDiff, Nat.reduceAdd, Int.reduceLT, Int.reduceLE, Int.reduceNeg, Int.reduceEq, Nat.reduceLT, Nat.reduceSub, Nat.reduceMul, Nat.reduceBEq, Nat.reduceLeDiff, Int.reduceBEq, Int.reduceBNe, Int.reduceToNat, ne_eq, implies_true, bA]
    refine callI back_spec ?_
    simp (config := {maxSteps := 4000000}) only [U_req_ReadAnswer, reduceIte, reduceCtorEq, Nat.reduceEqDiff, Nat.reduceAdd, Int.reduceLT, Int.reduceLE, Int.reduceNeg, Int.reduceEq, Nat.reduceLT, Nat.reduceSub, Nat.reduceMul, Nat.reduceBEq, Nat.reduceLeDiff, Int.reduceBEq, Int.reduceBNe, Int.reduceToNat, ne_eq, implies_true, bA]
    refine callI (take_spec t [1, 4, 4, 2, 1] (by omega) (by simp)) ?_
    by_cases hl12 : t.length < 12
    · rw [hshort (by omega), take_ans_no t hl12]
      simp (config := {maxSteps := 4000000}) only [U_req_ReadAnswer, reduceIte, reduceCtorEq, Nat.reduceEqDiff, Nat.reduceAdd, Int.reduceLT, Int.reduceLE, Int.reduceNeg, Int.reduceEq, Nat.reduceLT, Nat.reduceSub, Nat.reduceMul, Nat.reduceBEq, Nat.reduceLeDiff, Int.reduceBEq, Int.reduceBNe, Int.reduceToNat, ne_eq, implies_true, bA]
      rfl
    · rw [take_ans t (by omega)]
      have hd2 : dOf t = leN ((t.drop 9).take 2) := by rw [dOf, ← gS_take (t := t) (a := 9) (w := 2) (by decide) (by decide) (by omega)]; rfl
      have n1 := gS_take (t := t) (a := 0) (w := 1) (by decide) (by decide) (by omega)
      have n2 := gS_take (t := t) (a := 1) (w := 4) (by decide) (by decide) (by omega)
      have n3 := gS_take (t := t) (a := 5) (w := 4) (by decide) (by decide) (by omega)
      have n5 := gS_take (t := t) (a := 11) (w := 1) (by decide) (by decide) (by omega)
      have b1 := numT t 0 1 (by omega)
      have b2 := numT t 1 4 (by omega)
      have b3 := numT t 5 4 (by omega)
      have b4 := numT t 9 2 (by omega)
      have b5 := numT t 11 1 (by omega)
      have han : ∀ n, ansN t n = ⟨gS t 0 1, (t.drop 12).take (dOf t), gS t 1 4, gS t 5 4, idsN t (12 + dOf t) n⟩ := fun n => rfl
      rw [← n1, ← n2, ← n3] at han
      rw [← n5] at hz0
      have hshape := fun n (h : 12 + dOf t ≤ t.length) (h2 : goodA t n) => goodA_shape h h2
      have hmany := fun (h : 12 + dOf t ≤ t.length) (h2 : goodA t (manyA t)) => (goodA_many h h2).1
      rw [← n5] at hshape
      clear n1 n2 n3 n5
      generalize leN ((t.drop 0).take 1) = m1 at *
      generalize leN ((t.drop 1).take 4) = m2 at *
      generalize leN ((t.drop 5).take 4) = m3 at *
      generalize leN ((t.drop 9).take 2) = m4 at *
      generalize leN ((t.drop 11).take 1) = m5 at *
      have i0 : ∀ ob fb, islV ob fb 1 (.slc (rowsN .u64 [m1, m2, m3, m4, m5])) (.int .i64 0) = some (.fptr [.int .u64 (m1 : Int)]) := fun _ _ => rfl
      have i1 : ∀ ob fb, islV ob fb 1 (.slc (rowsN .u64 [m1, m2, m3, m4, m5])) (.int .i64 1) = some (.fptr [.int .u64 (m2 : Int)]) := fun _ _ => rfl
      have i2 : ∀ ob fb, islV ob fb 1 (.slc (rowsN .u64 [m1, m2, m3, m4, m5])) (.int .i64 2) = some (.fptr [.int .u64 (m3 : Int)]) := fun _ _ => rfl
      have i3 : ∀ ob fb, islV ob fb 1 (.slc (rowsN .u64 [m1, m2, m3, m4, m5])) (.int .i64 3) = some (.fptr [.int .u64 (m4 : Int)]) := fun _ _ => rfl
      have i4 : ∀ ob fb, islV ob fb 1 (.slc (rowsN .u64 [m1, m2, m3, m4, m5])) (.int .i64 4) = some (.fptr [.int .u64 (m5 : Int)]) := fun _ _ => rfl
      have c1 : IntKind.i64.wrap (m1 : Int) = (m1 : Int) := wrapI (by omega) (by omega)
      have c2 : IntKind.i64.wrap (m2 : Int) = (m2 : Int) := wrapI (by omega) (by omega)
      have c3 : IntKind.i64.wrap (m3 : Int) = (m3 : Int) := wrapI (by omega) (by omega)
      have hrl : (t.drop 12).length = t.length - 12 := by simp
      have eB : IntKind.u64.wrap ((t.drop 12).length : Int) = ((t.drop 12).length : Int) := wrapU (by omega) (by omega)
      by_cases hd : (t.drop 12).length < m4
      · have d1 : decide (((t.drop 12).length : Int) < (m4 : Int)) = true := by simp only [decide_eq_true_eq]; omega
        rw [hshort (by omega)]
        simp (config := {maxSteps := 4000000}) only [U_req_ReadAnswer, i3, eB, d1, reduceIte, reduceCtorEq, Nat.reduceEqDiff, Nat.reduceAdd, Int.reduceLT, Int.reduceLE, Int.reduceNeg, Int.reduceEq, Nat.reduceLT, Nat.reduceSub, Nat.reduceMul, Nat.reduceBEq, Nat.reduceLeDiff, Int.reduceBEq, Int.reduceBNe, Int.reduceToNat, ne_eq, implies_true, bA]
        rfl
      · have d1 : decide (((t.drop 12).length : Int) < (m4 : Int)) = false := by simp only [decide_eq_false_iff_not]; omega
        have h12 : ¬ t.length < 12 + dOf t := by omega
        have s1 : sstrV (.str (t.drop 12)) (some none) (some (some (m4 : Int))) = some (.str ((t.drop 12).take m4)) := sstrV_to (by omega)
        have s2 : sstrV (.str (t.drop 12)) (some (some (m4 : Int))) (some none) = some (.str ((t.drop 12).drop m4)) := sstrV_from (by omega)
        have hRl : ((t.drop 12).drop m4).length = t.length - (12 + m4) := by rw [List.length_drop, List.length_drop]; omega
        have hR : (t.drop 12).drop m4 = t.drop (12 + m4) := by rw [List.drop_drop]
        have hda : ((t.drop 12).take m4).length = m4 := by simp; omega
        rw [hd2] at han h12 hshape hmany
        generalize (t.drop 12).drop m4 = R at *
        generalize (t.drop 12).take m4 = D at *
        generalize t.drop 12 = T at *
        have hm5 : 0 < m5 := by omega
        simp (config := {maxSteps := 4000000}) only [U_req_ReadAnswer, i0, i1, i2, i3, i4, c1, c2, c3, eB, d1, s1, s2, reduceIte, reduceCtorEq, Nat.reduceEqDiff, Nat.reduceAdd, Int.reduceLT, Int.reduceLE, Int.reduceNeg, Int.reduceEq, Nat.reduceLT, Nat.reduceSub, Nat.reduceMul, Nat.reduceBEq, Nat.reduceLeDiff, Int.reduceBEq, Int.reduceBNe, Int.reduceToNat, ne_eq, implies_true, bA]
        refine loopF (fun i : Nat => ⟨ofL [(0, .str s), (2, .ref 0 0), (7, .str (R.drop (2 * i))), (8, .ref 1 0), (67, .int .u64 (m5 : Int)), (68, .int .u64 (i : Int))], if i = 0 then [.box [.int .i64 0, .str [], .int .i64 0, .int .i64 0, .slc []], .box [.int .i64 (m1 : Int), .str D, .int .i64 (m2 : Int), .int .i64 (m3 : Int), .nils]] else [.box [.int .i64 0, .str [], .int .i64 0, .int .i64 0, .slc []], .box [.int .i64 (m1 : Int), .str D, .int .i64 (m2 : Int), .int .i64 (m3 : Int), .osl 2 0 i], .list 1 (rowsZ .i64 (idsN t (12 + m4) i))]⟩) (fun i => i ≤ m5 ∧ 2 * i ≤ R.length) (fun i => m5 - i) 0 ?_ ⟨Nat.zero_le _, Nat.zero_le _⟩ ?_
        · simp (config := {maxSteps := 4000000}) only [U_req_ReadAnswer, Nat.mul_zero, if_pos rfl, reduceIte, reduceCtorEq, Nat.reduceEqDiff, Nat.reduceAdd, Int.reduceLT, Int.reduceLE, Int.reduceNeg, Int.reduceEq, Nat.reduceLT, Nat.reduceSub, Nat.reduceMul, Nat.reduceBEq, Nat.reduceLeDiff, Int.reduceBEq, Int.reduceBNe, Int.reduceToNat, ne_eq, implies_true, bA]
          all_goals rfl
        · intro i ⟨hi, hi2⟩
          by_cases h : i < m5
          · have d : decide ((i : Int) < (m5 : Int)) = true := by simpa using h
            have e1 : IntKind.u64.wrap ((i : Int) + 1) = ((i + 1 : Nat) : Int) := by rw [wrapU (by omega) (by omega)]; omega
            have hrd : (R.drop (2 * i)).length = R.length - 2 * i := by simp
            have hnn : R.drop (2 * (i + 1)) = (R.drop (2 * i)).drop 2 := by rw [List.drop_drop]; rfl
            by_cases h2 : (R.drop (2 * i)).length < 2
            · rw [hno (by rw [hd2]; exact h12) (fun hg => by have := hshape _ (by omega) hg; omega)]
              by_cases hi0 : i = 0
              · subst hi0
                simp only [Nat.mul_zero, List.drop_zero] at h2
                have dz : decide ((0 : Int) < (m5 : Int)) = true := by simp only [decide_eq_true_eq]; omega
                simp (config := {maxSteps := 4000000}) only [U_req_ReadAnswer, dz, if_pos rfl, Nat.mul_zero, reduceIte, reduceCtorEq, Nat.reduceEqDiff, Nat.reduceAdd, Int.reduceLT, Int.reduceLE, Int.reduceNeg, Int.reduceEq, Nat.reduceLT, Nat.reduceSub, Nat.reduceMul, Nat.reduceBEq, Nat.reduceLeDiff, Int.reduceBEq, Int.reduceBNe, Int.reduceToNat, ne_eq, implies_true, bA]
                refine callI (take_spec R [2] (by omega) (by simp)) ?_
                rw [take_two_no _ h2]
                simp (config := {maxSteps := 4000000}) only [U_req_ReadAnswer, reduceIte, reduceCtorEq, Nat.reduceEqDiff, Nat.reduceAdd, Int.reduceLT, Int.reduceLE, Int.reduceNeg, Int.reduceEq, Nat.reduceLT, Nat.reduceSub, Nat.reduceMul, Nat.reduceBEq, Nat.reduceLeDiff, Int.reduceBEq, Int.reduceBNe, Int.reduceToNat, ne_eq, implies_true, bA]
                rfl
              · simp only [if_neg hi0]
                simp (config := {maxSteps := 4000000}) only [U_req_ReadAnswer, d, reduceIte, reduceCtorEq, Nat.reduceEqDiff, Nat.reduceAdd, Int.reduceLT, Int.reduceLE, Int.reduceNeg, Int.reduceEq, Nat.reduceLT, Nat.reduceSub, Nat.reduceMul, Nat.reduceBEq, Nat.reduceLeDiff, Int.reduceBEq, Int.reduceBNe, Int.reduceToNat, ne_eq, implies_true, bA]
                refine callI (take_spec (R.drop (2 * i)) [2] (by omega) (by simp)) ?_
                rw [take_two_no _ h2]
                simp (config := {maxSteps := 4000000}) only [U_req_ReadAnswer, reduceIte, reduceCtorEq, Nat.reduceEqDiff, Nat.reduceAdd, Int.reduceLT, Int.reduceLE, Int.reduceNeg, Int.reduceEq, Nat.reduceLT, Nat.reduceSub, Nat.reduceMul, Nat.reduceBEq, Nat.reduceLeDiff, Int.reduceBEq, Int.reduceBNe, Int.reduceToNat, ne_eq, implies_true, bA]
                rfl
            · have hv : ((leN ((R.drop (2 * i)).take 2) : Nat) : Int) = gS t (12 + m4 + 2 * i) 2 := by
                rw [hR, List.drop_drop]
                exact gS_take (by decide) (by decide) (by omega)
              have hb2 : leN ((R.drop (2 * i)).take 2) < 65536 := by
                have := leN_lt ((R.drop (2 * i)).take 2)
                rw [show ((R.drop (2 * i)).take 2).length = 2 by rw [List.length_take]; omega] at this
                exact this
              have hsu := idsN_succ t (12 + m4) i
              rw [← hv] at hsu
              have htk := take_two (R.drop (2 * i)) (by omega)
              generalize leN ((R.drop (2 * i)).take 2) = x at *
              have j0 : ∀ ob fb, islV ob fb 1 (.slc (rowsN .u64 [x])) (.int .i64 0) = some (.fptr [.int .u64 (x : Int)]) := fun _ _ => rfl
              have cx : IntKind.i64.wrap (x : Int) = (x : Int) := wrapI (by omega) (by omega)
              by_cases hi0 : i = 0
              · subst hi0
                simp only [Nat.mul_zero, List.drop_zero] at h2 htk
                have dz : decide ((0 : Int) < (m5 : Int)) = true := by simp only [decide_eq_true_eq]; omega
                simp (config := {maxSteps := 4000000}) only [U_req_ReadAnswer, dz, if_pos rfl, Nat.mul_zero, reduceIte, reduceCtorEq, Nat.reduceEqDiff, Nat.reduceAdd, Int.reduceLT, Int.reduceLE, Int.reduceNeg, Int.reduceEq, Nat.reduceLT, Nat.reduceSub, Nat.reduceMul, Nat.reduceBEq, Nat.reduceLeDiff, Int.reduceBEq, Int.reduceBNe, Int.reduceToNat, ne_eq, implies_true, bA]
                refine callI (take_spec R [2] (by omega) (by simp)) ?_
                rw [htk]
                have ez : IntKind.u64.wrap (0 + 1) = 1 := by decide
                have hap0 : ∀ fb, appO [.box [.int .i64 0, .str [], .int .i64 0, .int .i64 0, .slc []], .box [.int .i64 (m1 : Int), .str D, .int .i64 (m2 : Int), .int .i64 (m3 : Int), .nils], .none] fb (some 2) 1 .nils (some [[.int .i64 (x : Int)]]) = some (.osl 2 0 1, [.box [.int .i64 0, .str [], .int .i64 0, .int .i64 0, .slc []], .box [.int .i64 (m1 : Int), .str D, .int .i64 (m2 : Int), .int .i64 (m3 : Int), .nils], .list 1 [[.int .i64 (x : Int)]]]) := fun fb => appO_nilsA rfl rfl (by simp)
                simp (config := {maxSteps := 4000000}) only [U_req_ReadAnswer, j0, cx, hap0, ez, reduceIte, reduceCtorEq, Nat.reduceEqDiff, Nat.reduceAdd, Int.reduceLT, Int.reduceLE, Int.reduceNeg, Int.reduceEq, Nat.reduceLT, Nat.reduceSub, Nat.reduceMul, Nat.reduceBEq, Nat.reduceLeDiff, Int.reduceBEq, Int.reduceBNe, Int.reduceToNat, ne_eq, implies_true, bA]
                refine ⟨0 + 1, ?_, ⟨by omega, by omega⟩, by omega⟩
                show _ = _
                simp only [hsu]
                rfl
              · simp only [if_neg hi0]
                have hap := fun (fb : List Nat) (hf : fb.contains 2 = false) nw => app_Z (k := .i64) (ob := [.box [.int .i64 0, .str [], .int .i64 0, .int .i64 0, .slc []], .box [.int .i64 (m1 : Int), .str D, .int .i64 (m2 : Int), .int .i64 (m3 : Int), .osl 2 0 i], .list 1 (rowsZ .i64 (idsN t (12 + m4) i)), .none]) (fb := fb) (nw := nw) (o := 2) (n := i) (l := idsN t (12 + m4) i) (x := (x : Int)) hf rfl (idsN_len _ _ _).symm (by rw [idsN_len]; omega)
                simp (config := {maxSteps := 4000000}) only [U_req_ReadAnswer, d, reduceIte, reduceCtorEq, Nat.reduceEqDiff, Nat.reduceAdd, Int.reduceLT, Int.reduceLE, Int.reduceNeg, Int.reduceEq, Nat.reduceLT, Nat.reduceSub, Nat.reduceMul, Nat.reduceBEq, Nat.reduceLeDiff, Int.reduceBEq, Int.reduceBNe, Int.reduceToNat, ne_eq, implies_true, bA]
                refine callI (take_spec (R.drop (2 * i)) [2] (by omega) (by simp)) ?_
                rw [htk]
                simp (config := {maxSteps := 4000000}) only [U_req_ReadAnswer, j0, cx, hap, e1, reduceIte, reduceCtorEq, Nat.reduceEqDiff, Nat.reduceAdd, Int.reduceLT, Int.reduceLE, Int.reduceNeg, Int.reduceEq, Nat.reduceLT, Nat.reduceSub, Nat.reduceMul, Nat.reduceBEq, Nat.reduceLeDiff, Int.reduceBEq, Int.reduceBNe, Int.reduceToNat, ne_eq, implies_true, bA]
                refine ⟨i + 1, ?_, ⟨by omega, by omega⟩, by omega⟩
                rw [hnn, hsu, if_neg (by omega)]
          · have d : decide ((i : Int) < (m5 : Int)) = false := by simpa using h
            have : i = m5 := by omega
            subst this
            have hA := answer_spec (ansN t i) (by rw [han]; show D.length ≤ _; omega) (by rw [han]; show (idsN _ _ _).length ≤ _; rw [idsN_len]; omega)
            have hpa : pA (ansN t i) = .agg [.int .i64 (m1 : Int), .str D, .int .i64 (m2 : Int), .int .i64 (m3 : Int), .slc (rowsZ .i64 (idsN t (12 + m4) i))] := by rw [han]; rfl
            have hll : i = (rowsZ IntKind.i64 (idsN t (12 + m4) i)).length := by rw [rowsZ_len, idsN_len]
            have hro := rowsO_all (e := 1) hll
            simp only [if_neg (show ¬ i = 0 by omega)]
            rcases writeA_cases (ansN t i) t s hz with ⟨g1, g2, g3⟩ | ⟨g1, g2⟩
            · rw [hyes (by rw [hd2]; exact h12) (show goodA t i from ⟨g1, g2⟩)]
              have g4 : (s == s) = true := by simp
              rw [g3, hpa] at hA
              simp (config := {maxSteps := 4000000}) only [U_req_ReadAnswer, d, hro, reduceIte, reduceCtorEq, Nat.reduceEqDiff, Nat.reduceAdd, Int.reduceLT, Int.reduceLE, Int.reduceNeg, Int.reduceEq, Nat.reduceLT, Nat.reduceSub, Nat.reduceMul, Nat.reduceBEq, Nat.reduceLeDiff, Int.reduceBEq, Int.reduceBNe, Int.reduceToNat, ne_eq, implies_true, bA]
              refine callS hA rfl ?_
              rw [hpa]
              simp (config := {maxSteps := 4000000}) only [U_req_ReadAnswer, g4, hro, reduceIte, reduceCtorEq, Nat.reduceEqDiff, Nat.reduceAdd, Int.reduceLT, Int.reduceLE, Int.reduceNeg, Int.reduceEq, Nat.reduceLT, Nat.reduceSub, Nat.reduceMul, Nat.reduceBEq, Nat.reduceLeDiff, Int.reduceBEq, Int.reduceBNe, Int.reduceToNat, ne_eq, implies_true, bA]
            · rw [hno (by rw [hd2]; exact h12) (fun h => g1 (by
                have := hshape _ (by omega) h
                rw [show manyA t = i by omega] at h
                exact h))]
              rw [hpa] at hA
              simp (config := {maxSteps := 4000000}) only [U_req_ReadAnswer, d, hro, reduceIte, reduceCtorEq, Nat.reduceEqDiff, Nat.reduceAdd, Int.reduceLT, Int.reduceLE, Int.reduceNeg, Int.reduceEq, Nat.reduceLT, Nat.reduceSub, Nat.reduceMul, Nat.reduceBEq, Nat.reduceLeDiff, Int.reduceBEq, Int.reduceBNe, Int.reduceToNat, ne_eq, implies_true, bA]
              refine callS hA rfl ?_
              rcases g2 with g2 | ⟨g2, g3⟩
              · simp (config := {maxSteps := 4000000}) only [U_req_ReadAnswer, g2, reduceIte, reduceCtorEq, Nat.reduceEqDiff, Nat.reduceAdd, Int.reduceLT, Int.reduceLE, Int.reduceNeg, Int.reduceEq, Nat.reduceLT, Nat.reduceSub, Nat.reduceMul, Nat.reduceBEq, Nat.reduceLeDiff, Int.reduceBEq, Int.reduceBNe, Int.reduceToNat, ne_eq, implies_true, bA]
                rfl
              · simp (config := {maxSteps := 4000000}) only [U_req_ReadAnswer, g2, g3, reduceIte, reduceCtorEq, Nat.reduceEqDiff, Nat.reduceAdd, Int.reduceLT, Int.reduceLE, Int.reduceNeg, Int.reduceEq, Nat.reduceLT, Nat.reduceSub, Nat.reduceMul, Nat.reduceBEq, Nat.reduceLeDiff, Int.reduceBEq, Int.reduceBNe, Int.reduceToNat, ne_eq, implies_true, bA]
                rfl
  · have d0 : ((openS s).2 != 0) = true := by simpa using h0
    rw [readA_err h0]
    simp (config := {maxSteps := 4000000}) only [U_req_ReadAnswer, d0, reduceIte, reduceCtorEq, Nat.reduceEqDiff, Nat.reduceAdd, Int.reduceLT, Int.reduceLE, Int.reduceNeg, Int.reduceEq, Nat.reduceLT, Nat.reduceSub, Nat.reduceMul, Nat.reduceBEq, Nat.reduceLeDiff, Int.reduceBEq, Int.reduceBNe, Int.reduceToNat, ne_eq, implies_true, bA]
    rfl
theorem ra_zero_ids {s : List UInt8} (h : (readA s).2 = 0) (hz0 : gS (openS s).1 11 1 = 0) : (readA s).1.ids = [] := by
  unfold readA at h ⊢
  split
  · rfl
  · rename_i h1
    split
    · rfl
    · rename_i h2
      split
      · rename_i h3
        have := (goodA_many (by omega) h3).2
        rw [hz0] at this
        rw [ansN, show manyA (openS s).1 = 0 by omega, idsN_zero]
      · rfl
theorem readA_z {s : List UInt8} (h : (readA s).2 ≠ 0) : (readA s).1 = zeroA := by
  unfold readA at h ⊢
  split
  · rfl
  · rename_i h1
    split
    · rfl
    · rename_i h2
      split
      · rename_i h3; rw [if_neg h1, if_neg h2, if_pos h3] at h; exact absurd rfl h
      · rfl
theorem nz_ans {s : List UInt8} (hi : (readA s).2 = 0 → (readA s).1.ids = []) : nz (.tup [if (readA s).2 = 0 then .agg (rowN (readA s).1) else pA zeroA, .int .i64 (readA s).2]) = .tup [pA (readA s).1, .int .i64 (readA s).2] := by
  by_cases h : (readA s).2 = 0
  · rw [if_pos h]; simp [nz, nzL, rowN, rowA, hi h, rowsZ_nil]
  · rw [if_neg h, readA_z h]; simp [nz, nzL, rowA, zeroA, rowsZ_nil]
theorem ra_spec (s : List UInt8) (hs : s.length ≤ 1000000) : PCall Try.prog 19 [.str s] (.tup [pA (readA s).1, .int .i64 (readA s).2]) := by
  by_cases hz0 : gS (openS s).1 11 1 = 0
  · exact (ra_zero s hs hz0).nzR (nz_ans fun h => ra_zero_ids h hz0)
  · exact ra_pos s hs hz0
end Go.Proofs.Ytoofeppepahpfaa.Aw
