/-
  ModelApart: what is asked of one namespace leaves another as it was.
-/
import Derived.Test.YthjnfjgejdlbfaaL17t
set_option linter.all false
set_option linter.unusedSimpArgs false
set_option linter.unusedVariables false
namespace Go.Proofs.Ythjnfjgejdlbfaa.Aw
open Go.RowKit

def vA := (And.intro (And.intro (And.intro (And.intro (And.intro (And.intro (And.intro @ac_law17_ModelApart.eq_1 (@mR _ _ ac_law17_ModelApart_0.eq_1)) (And.intro (@mR _ _ ac_law17_ModelApart_1.eq_1) (@mR _ _ ac_law17_ModelApart_2.eq_1))) (And.intro (And.intro (@mU _ _ ac_law17_ModelApart_3.eq_1) (@mU _ _ ac_law17_ModelApart_4.eq_1)) (@mU _ _ ac_law17_ModelApart_5.eq_1))) (And.intro (And.intro (And.intro (@mR _ _ ac_law17_ModelApart_6.eq_1) (@mR _ _ ac_law17_ModelApart_7.eq_1)) (And.intro (@mR _ _ ac_law17_ModelApart_8.eq_1) (@mU _ _ ac_law17_ModelApart_9.eq_1))) (And.intro (And.intro (@mU _ _ ac_law17_ModelApart_10.eq_1) (@mU _ _ ac_law17_ModelApart_11.eq_1)) (@mR _ _ ac_law17_ModelApart_12.eq_1)))) (And.intro (And.intro (And.intro (And.intro (@mR _ _ ac_law17_ModelApart_13.eq_1) (@mU _ _ ac_law17_ModelApart_14.eq_1)) (And.intro (@mU _ _ ac_law17_ModelApart_15.eq_1) (@mR _ _ ac_law17_ModelApart_16.eq_1))) (And.intro (And.intro (@mR _ _ ac_law17_ModelApart_17.eq_1) (@mU _ _ ac_law17_ModelApart_18.eq_1)) (@mU _ _ ac_law17_ModelApart_19.eq_1))) (And.intro (And.intro (And.intro (@mU _ _ ac_law17_ModelApart_20.eq_1) (@mR _ _ ac_law17_ModelApart_21.eq_1)) (And.intro (@mU _ _ ac_law17_ModelApart_22.eq_1) (@mU _ _ ac_law17_ModelApart_23.eq_1))) (And.intro (And.intro (@mU _ _ ac_law17_ModelApart_24.eq_1) (@mU _ _ ac_law17_ModelApart_25.eq_1)) (@mU _ _ ac_law17_ModelApart_26.eq_1))))) (And.intro (And.intro (And.intro (And.intro (And.intro (@mR _ _ ac_law17_ModelApart_27.eq_1) (@mR _ _ ac_law17_ModelApart_28.eq_1)) (And.intro (@mR _ _ ac_law17_ModelApart_29.eq_1) (@mR _ _ ac_law17_ModelApart_30.eq_1))) (And.intro (And.intro (@mR _ _ ac_law17_ModelApart_31.eq_1) (@mU _ _ ac_law17_ModelApart_32.eq_1)) (@mU _ _ ac_law17_ModelApart_33.eq_1))) (And.intro (And.intro (And.intro (@mD _ _ _ ac_law17_ModelApart_34.eq_1) (@mU _ _ ac_law17_ModelApart_35.eq_1)) (And.intro (@mU _ _ ac_law17_ModelApart_36.eq_1) (@mR _ _ ac_law17_ModelApart_39.eq_1))) (And.intro (And.intro (@mR _ _ ac_law17_ModelApart_40.eq_1) (@mU _ _ ac_law17_ModelApart_41.eq_1)) (@mU _ _ ac_law17_ModelApart_42.eq_1)))) (And.intro (And.intro (And.intro (And.intro (@mU _ _ ac_law17_ModelApart_43.eq_1) (@mR _ _ ac_law17_ModelApart_44.eq_1)) (And.intro (@mR _ _ ac_law17_ModelApart_45.eq_1) (@mU _ _ ac_law17_ModelApart_46.eq_1))) (And.intro (And.intro (@mU _ _ ac_law17_ModelApart_47.eq_1) (@mD _ _ _ ac_law17_ModelApart_48.eq_1)) (@mD _ _ _ ac_law17_ModelApart_49.eq_1))) (And.intro (And.intro (And.intro (@mR _ _ ac_law17_ModelApart_50.eq_1) (@mU _ _ ac_law17_ModelApart_51.eq_1)) (@mU _ _ ac_law17_ModelApart_52.eq_1)) (And.intro (And.intro (@mU _ _ ac_law17_ModelApart_53.eq_1) (@mU _ _ ac_law17_ModelApart_54.eq_1)) (@mU _ _ ac_law17_ModelApart_55.eq_1)))))) (And.intro (And.intro (And.intro (And.intro (And.intro (And.intro (@mR _ _ ac_law17_ModelApart_56.eq_1) (@mU _ _ ac_law17_ModelApart_57.eq_1)) (And.intro (@mU _ _ ac_law17_ModelApart_58.eq_1) (@mU _ _ ac_law17_ModelApart_59.eq_1))) (And.intro (And.intro (@mU _ _ ac_law17_ModelApart_60.eq_1) (@mU _ _ ac_law17_ModelApart_61.eq_1)) (@mU _ _ ac_law17_ModelApart_62.eq_1))) (And.intro (And.intro (And.intro (@mU _ _ ac_law17_ModelApart_63.eq_1) (@mU _ _ ac_law17_ModelApart_64.eq_1)) (And.intro (@mU _ _ ac_law17_ModelApart_65.eq_1) (@mU _ _ ac_law17_ModelApart_66.eq_1))) (And.intro (And.intro (@mR _ _ ac_law17_ModelApart_67.eq_1) (@mU _ _ ac_law17_ModelApart_68.eq_1)) (@mU _ _ ac_law17_ModelApart_69.eq_1)))) (And.intro (And.intro (And.intro (And.intro (@mU _ _ ac_law17_ModelApart_70.eq_1) (@mU _ _ ac_law17_ModelApart_71.eq_1)) (And.intro (@mU _ _ ac_law17_ModelApart_72.eq_1) (@mR _ _ ac_law17_ModelApart_73.eq_1))) (And.intro (And.intro (@mU _ _ ac_law17_ModelApart_74.eq_1) (@mU _ _ ac_law17_ModelApart_75.eq_1)) (@mU _ _ ac_law17_ModelApart_76.eq_1))) (And.intro (And.intro (And.intro (@mU _ _ ac_law17_ModelApart_77.eq_1) (@mU _ _ ac_law17_ModelApart_78.eq_1)) (And.intro (@mU _ _ ac_law17_ModelApart_79.eq_1) (@mU _ _ ac_law17_ModelApart_80.eq_1))) (And.intro (And.intro (@mU _ _ ac_law17_ModelApart_81.eq_1) (@mU _ _ ac_law17_ModelApart_82.eq_1)) (@mU _ _ ac_law17_ModelApart_83.eq_1))))) (And.intro (And.intro (And.intro (And.intro (And.intro @l_law17_ModelApart_0.eq_1 @l_law17_ModelApart_1.eq_1) (And.intro @l_law17_ModelApart_2.eq_1 @l_law17_ModelApart_6.eq_1)) (And.intro (And.intro @l_law17_ModelApart_7.eq_1 @l_law17_ModelApart_8.eq_1) @l_law17_ModelApart_12.eq_1)) (And.intro (And.intro (And.intro @l_law17_ModelApart_13.eq_1 @l_law17_ModelApart_16.eq_1) (And.intro @l_law17_ModelApart_17.eq_1 @l_law17_ModelApart_21.eq_1)) (And.intro (And.intro @l_law17_ModelApart_27.eq_1 @l_law17_ModelApart_28.eq_1) @l_law17_ModelApart_29.eq_1))) (And.intro (And.intro (And.intro (And.intro @l_law17_ModelApart_30.eq_1 @l_law17_ModelApart_31.eq_1) (And.intro @l_law17_ModelApart_34.eq_1 @l_law17_ModelApart_39.eq_1)) (And.intro (And.intro @l_law17_ModelApart_40.eq_1 @l_law17_ModelApart_44.eq_1) @l_law17_ModelApart_45.eq_1)) (And.intro (And.intro (And.intro @l_law17_ModelApart_48.eq_1 @l_law17_ModelApart_49.eq_1) @l_law17_ModelApart_50.eq_1) (And.intro (And.intro @l_law17_ModelApart_56.eq_1 @l_law17_ModelApart_67.eq_1) @l_law17_ModelApart_73.eq_1))))))
def v37 := (And.intro (And.intro (And.intro (@mDN _ _ _ ac_law17_ModelApart_37.eq_1) @l_law17_ModelApart_37t0.eq_1) @l_law17_ModelApart_37t1.eq_1) (And.intro (And.intro @l_law17_ModelApart_37t2.eq_1 @l_law17_ModelApart_37t3.eq_1) @l_law17_ModelApart_37t4.eq_1))
def v38 := (And.intro (And.intro (And.intro (And.intro (And.intro (@mDN _ _ _ ac_law17_ModelApart_38.eq_1) @l_law17_ModelApart_38t0.eq_1) @l_law17_ModelApart_38t1.eq_1) (And.intro @l_law17_ModelApart_38t2.eq_1 @l_law17_ModelApart_38t3.eq_1)) (And.intro (And.intro @l_law17_ModelApart_38t4.eq_1 @l_law17_ModelApart_38t5.eq_1) (And.intro @l_law17_ModelApart_38t6.eq_1 @l_law17_ModelApart_38t7.eq_1))) (And.intro (And.intro (And.intro (And.intro @l_law17_ModelApart_38t8.eq_1 @l_law17_ModelApart_38t9.eq_1) @l_law17_ModelApart_38t10.eq_1) (And.intro @l_law17_ModelApart_38t11.eq_1 @l_law17_ModelApart_38t12.eq_1)) (And.intro (And.intro @l_law17_ModelApart_38t13.eq_1 @l_law17_ModelApart_38t14.eq_1) (And.intro @l_law17_ModelApart_38t15.eq_1 @l_law17_ModelApart_38t16.eq_1))))

theorem do9_r {ob fp b cap A} (h : Mod ob fp b cap A) {id : Int} {s : Spc} (hg : getG id A = some s) : RCall Try.prog 12 [.ref b 0, pQ ⟨9, id, 0, 0, []⟩] ob (repP 0 [] s.size (s.S.length : Int) (.slc [])) := by
  obtain ⟨m, ck, E, h, _⟩ := h
  refine RCall.of (K := fun r ob' => r = repP 0 [] s.size (s.S.length : Int) (.slc []) ∧ ∃ ex, ob' = ob ++ ex) ?_ (fun r ob' h => h) rfl
  refine icall_dr Try.func12 comp_model_Model_Do ?_
  have hbA := fun l => apL h.hb l
  have hmA := fun l => apL h.hm l
  obtain ⟨nm, hnm, hnq⟩ := name_yes (op := 9) (by omega)
  obtain ⟨E1, e, E2, rfl, rfl, hk⟩ := h.get hg
  have he : e ∈ E1 ++ e :: E2 := mid_mem.2 (.inl rfl)
  have hsA := fun l => apL (h.sp e he) l
  have hpA := fun l => apL (h.mp e he) l
  have hln := h.slen he
  simp (config := {maxSteps := 4000000}) only [U_model_Model_Do, ap0, ap1, reduceIte, reduceCtorEq, Nat.reduceEqDiff, Nat.reduceAdd, Int.reduceLT, Int.reduceLE, Int.reduceNeg, Int.reduceEq, Nat.reduceLT, Nat.reduceSub, Nat.reduceMul, Nat.reduceBEq, Nat.reduceLeDiff, Int.reduceBEq, Int.reduceBNe, Int.reduceToNat, ne_eq, implies_true, bA]
  refine callI hnm ?_
  simp (config := {maxSteps := 4000000}) only [U_model_Model_Do, ap0, ap1, st1, hnq, hbA, hmA, hk, hsA, hpA, hln, reduceIte, reduceCtorEq, Nat.reduceEqDiff, Nat.reduceAdd, Int.reduceLT, Int.reduceLE, Int.reduceNeg, Int.reduceEq, Nat.reduceLT, Nat.reduceSub, Nat.reduceMul, Nat.reduceBEq, Nat.reduceLeDiff, Int.reduceBEq, Int.reduceBNe, Int.reduceToNat, ne_eq, implies_true, bA]
  exact ⟨_, rfl, rfl, _, rfl⟩
theorem sec7_i {ob b m ck cap A} {E1 E2 : List SpE} {e : SpE} (h : ModAt ob b m ck (E1 ++ e :: E2) cap A) {id at_ : Int} (h0 : 0 ≤ at_) (h1 : at_ < e.s.size) :
    ICall Try.prog 31 [.ref b 0, .ref e.sb 0, pQ ⟨7, id, at_, 1, []⟩] ob fun r ob' => r = repP 0 (readS e.s.S at_ 1) 0 0 (.slc []) ∧ ∃ ex, ob' = ob ++ ex := by
  refine icall_dr Try.func31 comp_model_Model_sectors ?_
  have he : e ∈ E1 ++ e :: E2 := mid_mem.2 (.inl rfl)
  have hsp := h.sp e he
  have hsA := fun l => apL hsp l
  have hsec := h.vol.sec e.s (h.inA he)
  have hszs := h.vol.szs e.s (h.inA he)
  have hw := whole_spec ⟨7, id, at_, 1, []⟩ (by simp)
  rw [show wN ⟨7, id, at_, 1, []⟩ = 1 by simp [wN], show wB ⟨7, id, at_, 1, []⟩ = true by simp [wB, wN]] at hw
  have d1 : decide (at_ < 0) = false := by simp; omega
  have d2 : decide (e.s.size < at_) = false := by simp; omega
  have e1 : IntKind.i64.wrap (e.s.size - at_) = e.s.size - at_ := wrapI (by omega) (by omega)
  have d3 : decide (e.s.size - at_ < 1) = false := by simp; omega
  simp (config := {maxSteps := 4000000}) only [U_model_Model_sectors, ap0, ap1, hsA, reduceIte, reduceCtorEq, Nat.reduceEqDiff, Nat.reduceAdd, Int.reduceLT, Int.reduceLE, Int.reduceNeg, Int.reduceEq, Nat.reduceLT, Nat.reduceSub, Nat.reduceMul, Nat.reduceBEq, Nat.reduceLeDiff, Int.reduceBEq, Int.reduceBNe, Int.reduceToNat, ne_eq, implies_true, bA]
  refine callI hw ?_
  simp (config := {maxSteps := 4000000}) only [U_model_Model_sectors, ap0, ap1, ap2, st1, st2, d1, d2, d3, e1, hsA, reduceIte, reduceCtorEq, Nat.reduceEqDiff, Nat.reduceAdd, Int.reduceLT, Int.reduceLE, Int.reduceNeg, Int.reduceEq, Nat.reduceLT, Nat.reduceSub, Nat.reduceMul, Nat.reduceBEq, Nat.reduceLeDiff, Int.reduceBEq, Int.reduceBNe, Int.reduceToNat, ne_eq, implies_true, bA]
  refine callM (read_i (n := 1) (apL hsp _) (apL (h.mp e he) _) (h.rel e he) hsec ⟨by omega, by omega⟩ (by omega)) ?_
  rintro r ob' ⟨rfl, ex, rfl⟩
  simp (config := {maxSteps := 4000000}) only [U_model_Model_sectors, ap0, ap1, ap2, st1, st2, reduceIte, reduceCtorEq, Nat.reduceEqDiff, Nat.reduceAdd, Int.reduceLT, Int.reduceLE, Int.reduceNeg, Int.reduceEq, Nat.reduceLT, Nat.reduceSub, Nat.reduceMul, Nat.reduceBEq, Nat.reduceLeDiff, Int.reduceBEq, Int.reduceBNe, Int.reduceToNat, ne_eq, implies_true, bA]
  exact ⟨_, rfl, rfl, _, rfl⟩
theorem do7_r {ob fp b cap A} (h : Mod ob fp b cap A) {id at_ : Int} {s : Spc} (hg : getG id A = some s) (h0 : 0 ≤ at_) (h1 : at_ < s.size) : RCall Try.prog 12 [.ref b 0, pQ ⟨7, id, at_, 1, []⟩] ob (repP 0 (readS s.S at_ 1) 0 0 (.slc [])) := by
  obtain ⟨m, ck, E, h, _⟩ := h
  refine RCall.of (K := fun r ob' => r = repP 0 (readS s.S at_ 1) 0 0 (.slc []) ∧ ∃ ex, ob' = ob ++ ex) ?_ (fun r ob' h => h) rfl
  refine icall_dr Try.func12 comp_model_Model_Do ?_
  have hbA := fun l => apL h.hb l
  have hmA := fun l => apL h.hm l
  obtain ⟨nm, hnm, hnq⟩ := name_yes (op := 7) (by omega)
  obtain ⟨E1, e, E2, rfl, rfl, hk⟩ := h.get hg
  simp (config := {maxSteps := 4000000}) only [U_model_Model_Do, ap0, ap1, reduceIte, reduceCtorEq, Nat.reduceEqDiff, Nat.reduceAdd, Int.reduceLT, Int.reduceLE, Int.reduceNeg, Int.reduceEq, Nat.reduceLT, Nat.reduceSub, Nat.reduceMul, Nat.reduceBEq, Nat.reduceLeDiff, Int.reduceBEq, Int.reduceBNe, Int.reduceToNat, ne_eq, implies_true, bA]
  refine callI hnm ?_
  simp (config := {maxSteps := 4000000}) only [U_model_Model_Do, ap0, ap1, st1, hnq, hbA, hmA, hk, reduceIte, reduceCtorEq, Nat.reduceEqDiff, Nat.reduceAdd, Int.reduceLT, Int.reduceLE, Int.reduceNeg, Int.reduceEq, Nat.reduceLT, Nat.reduceSub, Nat.reduceMul, Nat.reduceBEq, Nat.reduceLeDiff, Int.reduceBEq, Int.reduceBNe, Int.reduceToNat, ne_eq, implies_true, bA]
  refine callM (sec7_i (h.keep fun i hi => List.getElem?_append_left (h.lt i hi)) h0 h1) ?_
  rintro r ob' ⟨rfl, ex, rfl⟩
  simp (config := {maxSteps := 4000000}) only [U_model_Model_Do, ap0, ap1, st1, reduceIte, reduceCtorEq, Nat.reduceEqDiff, Nat.reduceAdd, Int.reduceLT, Int.reduceLE, Int.reduceNeg, Int.reduceEq, Nat.reduceLT, Nat.reduceSub, Nat.reduceMul, Nat.reduceBEq, Nat.reduceLeDiff, Int.reduceBEq, Int.reduceBNe, Int.reduceToNat, ne_eq, implies_true, bA]
  exact ⟨_, rfl, rfl, _, rfl⟩
theorem ids_j {ob fp b cap A} (h : Mod ob fp b cap A) : ICall Try.prog 20 [.ref b 0] ob fun r ob' => r = .osl (ob.length + 1) 0 A.length ∧ ∃ x, ob' = ob ++ [x, .list 1 (rowsZ .i64 (A.map (·.id)))] := by
  obtain ⟨m, ck, E, h, _⟩ := h
  refine callM (ids_i h) ?_
  rintro r ob' ⟨h1, h2⟩
  exact ⟨h1, _, h2⟩
theorem at_j {ob fp b cap A} (h : Mod ob fp b cap A) {id : Int} {s : Spc} (hg : getG id A = some s) : ICall Try.prog 21 [.ref b 0, .int .i64 id] ob fun r ob' => r = .osl (ob.length + 1) 0 s.S.length ∧ ∃ x, ob' = ob ++ [x, .list 1 (rowsZ .i64 (s.S.map (·.at_)))] := by
  obtain ⟨m, ck, E, h, _⟩ := h
  refine callM (at_i h id) ?_
  rw [hg]
  intro r ob' hh
  exact hh

set_option maxHeartbeats 4000000 in
theorem apart_law (c0 : Int) (l : List Rq) (q : Rq) : PCall Try.prog 6 [.int .i64 c0, .slc (l.map rowQ), pQ q] (.bool true) := by
  refine pcall_dr Try.func6 comp_law17_ModelApart ?_
  by_cases hc : 200 < c0
  · have d : decide (200 < c0) = true := by simpa using hc
    simp (config := {maxSteps := 4000000}) only [U_law17_ModelApart, d, reduceIte, reduceCtorEq, Nat.reduceEqDiff, Nat.reduceAdd, Int.reduceLT, Int.reduceLE, Int.reduceNeg, Int.reduceEq, Nat.reduceLT, Nat.reduceSub, Nat.reduceMul, Nat.reduceBEq, Nat.reduceLeDiff, Int.reduceBEq, Int.reduceBNe, Int.reduceToNat, ne_eq, implies_true, bA]
    refine callI awake_spec ?_
    simp (config := {maxSteps := 4000000}) only [U_law17_ModelApart, reduceIte, reduceCtorEq, Nat.reduceEqDiff, Nat.reduceAdd, Int.reduceLT, Int.reduceLE, Int.reduceNeg, Int.reduceEq, Nat.reduceLT, Nat.reduceSub, Nat.reduceMul, Nat.reduceBEq, Nat.reduceLeDiff, Int.reduceBEq, Int.reduceBNe, Int.reduceToNat, ne_eq, implies_true, bA]
  have d : decide (200 < c0) = false := by simpa using hc
  simp only [reduceIte, reduceCtorEq, Nat.reduceEqDiff, Nat.reduceAdd, Int.reduceLT, Int.reduceLE, Int.reduceNeg, Int.reduceEq, Nat.reduceLT, Nat.reduceSub, Nat.reduceMul, Nat.reduceBEq, Nat.reduceLeDiff, Int.reduceBEq, Int.reduceBNe, Int.reduceToNat, ne_eq, implies_true, bA, vA, d]
  refine callI (small_spec q) ?_
  by_cases hq : ¬ (q.d.length : Int) ≤ 1000
  · have dq : decide ((q.d.length : Int) ≤ 1000) = false := by simpa using hq
    simp only [reduceIte, reduceCtorEq, Nat.reduceEqDiff, Nat.reduceAdd, Int.reduceLT, Int.reduceLE, Int.reduceNeg, Int.reduceEq, Nat.reduceLT, Nat.reduceSub, Nat.reduceMul, Nat.reduceBEq, Nat.reduceLeDiff, Int.reduceBEq, Int.reduceBNe, Int.reduceToNat, ne_eq, implies_true, bA, vA, dq]
    refine callI awake_spec ?_
    simp only [reduceIte, reduceCtorEq, Nat.reduceEqDiff, Nat.reduceAdd, Int.reduceLT, Int.reduceLE, Int.reduceNeg, Int.reduceEq, Nat.reduceLT, Nat.reduceSub, Nat.reduceMul, Nat.reduceBEq, Nat.reduceLeDiff, Int.reduceBEq, Int.reduceBNe, Int.reduceToNat, ne_eq, implies_true, bA, vA]
  replace hq := Decidable.not_not.1 hq
  have dq : decide ((q.d.length : Int) ≤ 1000) = true := by simpa using hq
  have hq' : q.d.length ≤ 1000 := by omega
  simp only [reduceIte, reduceCtorEq, Nat.reduceEqDiff, Nat.reduceAdd, Int.reduceLT, Int.reduceLE, Int.reduceNeg, Int.reduceEq, Nat.reduceLT, Nat.reduceSub, Nat.reduceMul, Nat.reduceBEq, Nat.reduceLeDiff, Int.reduceBEq, Int.reduceBNe, Int.reduceToNat, ne_eq, implies_true, bA, vA, dq]
  refine callM (new_i _ c0 (by omega)) ?_
  rintro r ob1 ⟨fp1, rfl, hM, hF⟩
  obtain ⟨K, hK⟩ : ∃ K, max c0 0 = K := ⟨_, rfl⟩
  rw [hK] at hM
  replace hM : Mod ob1 fp1 2 K [] := hM
  have hr := hF.at (j := 0) (x := .box (rowQ q)) ⟨rfl, by simp⟩
  clear hF
  simp only [reduceIte, reduceCtorEq, Nat.reduceEqDiff, Nat.reduceAdd, Int.reduceLT, Int.reduceLE, Int.reduceNeg, Int.reduceEq, Nat.reduceLT, Nat.reduceSub, Nat.reduceMul, Nat.reduceBEq, Nat.reduceLeDiff, Int.reduceBEq, Int.reduceBNe, Int.reduceToNat, ne_eq, implies_true, bA, vA]
  refine callI awake_spec ?_
  simp only [reduceIte, reduceCtorEq, Nat.reduceEqDiff, Nat.reduceAdd, Int.reduceLT, Int.reduceLE, Int.reduceNeg, Int.reduceEq, Nat.reduceLT, Nat.reduceSub, Nat.reduceMul, Nat.reduceBEq, Nat.reduceLeDiff, Int.reduceBEq, Int.reduceBNe, Int.reduceToNat, ne_eq, implies_true, bA, vA]
  refine loopF (fun x : List AObj × List Nat × List Spc × Nat => ⟨ofL [(1, .slc (l.map rowQ)), (5, .ref 0 0), (7, .ref 2 0), (8, .int .i64 (x.2.2.2 : Int))], x.1⟩)
    (fun x => Mod x.1 x.2.1 2 K x.2.2.1 ∧ (x.1[0]? = some (.box (rowQ q)) ∧ 0 ∉ x.2.1) ∧ x.2.2.2 ≤ l.length) (fun x => l.length - x.2.2.2) (ob1, fp1, [], 0) ?_ ⟨hM, hr, Nat.zero_le _⟩ ?_
  · simp only [reduceIte, reduceCtorEq, Nat.reduceEqDiff, Nat.reduceAdd, Int.reduceLT, Int.reduceLE, Int.reduceNeg, Int.reduceEq, Nat.reduceLT, Nat.reduceSub, Nat.reduceMul, Nat.reduceBEq, Nat.reduceLeDiff, Int.reduceBEq, Int.reduceBNe, Int.reduceToNat, ne_eq, implies_true, bA, vA]
    all_goals rfl
  clear hM hr
  rintro ⟨ob, fp, A, i⟩ ⟨hM, hr, hi⟩
  simp only at hM hr hi
  by_cases hlt : i < l.length ∧ i < 40
  · have d1 : decide ((i : Int) < (l.length : Int)) = true := by simp; omega
    have d2 : decide ((i : Int) < 40) = true := by simp; omega
    have e1 : IntKind.i64.wrap ((i : Int) + 1) = ((i + 1 : Nat) : Int) := by rw [wrapI (by omega) (by omega)]; omega
    have isl := fun ob fb => islV_map (ob := ob) (fb := fb) (k := .i64) (g := rowQ) (l := l) (e := 5) hlt.1 rfl
    obtain ⟨p, hp⟩ : ∃ p, l[i] = p := ⟨_, rfl⟩
    rw [hp] at isl
    simp only [reduceIte, reduceCtorEq, Nat.reduceEqDiff, Nat.reduceAdd, Int.reduceLT, Int.reduceLE, Int.reduceNeg, Int.reduceEq, Nat.reduceLT, Nat.reduceSub, Nat.reduceMul, Nat.reduceBEq, Nat.reduceLeDiff, Int.reduceBEq, Int.reduceBNe, Int.reduceToNat, ne_eq, implies_true, bA, vA, d1, d2, isl]
    refine callI (small_spec p) ?_
    by_cases hps : (p.d.length : Int) ≤ 1000
    · have dp : decide ((p.d.length : Int) ≤ 1000) = true := by simpa using hps
      obtain ⟨A', e, dd, sz, us, hd⟩ : ∃ A' e dd sz us, doV K A p = (A', ⟨e, dd, sz, us⟩) := ⟨_, _, _, _, _, rfl⟩
      simp only [reduceIte, reduceCtorEq, Nat.reduceEqDiff, Nat.reduceAdd, Int.reduceLT, Int.reduceLE, Int.reduceNeg, Int.reduceEq, Nat.reduceLT, Nat.reduceSub, Nat.reduceMul, Nat.reduceBEq, Nat.reduceLeDiff, Int.reduceBEq, Int.reduceBNe, Int.reduceToNat, ne_eq, implies_true, bA, vA, dp, isl]
      refine callM (do_w hM p (by omega) hd) ?_
      rintro r ob2 ⟨ids, fp2, rfl, hM2, hF2, _⟩
      simp only [reduceIte, reduceCtorEq, Nat.reduceEqDiff, Nat.reduceAdd, Int.reduceLT, Int.reduceLE, Int.reduceNeg, Int.reduceEq, Nat.reduceLT, Nat.reduceSub, Nat.reduceMul, Nat.reduceBEq, Nat.reduceLeDiff, Int.reduceBEq, Int.reduceBNe, Int.reduceToNat, ne_eq, implies_true, bA, vA, e1]
      exact ⟨(ob2, fp2, A', i + 1), rfl, ⟨hM2, hF2.at hr, hlt.1⟩, by show l.length - (i + 1) < l.length - i; omega⟩
    · have dp : decide ((p.d.length : Int) ≤ 1000) = false := by simpa using hps
      simp only [reduceIte, reduceCtorEq, Nat.reduceEqDiff, Nat.reduceAdd, Int.reduceLT, Int.reduceLE, Int.reduceNeg, Int.reduceEq, Nat.reduceLT, Nat.reduceSub, Nat.reduceMul, Nat.reduceBEq, Nat.reduceLeDiff, Int.reduceBEq, Int.reduceBNe, Int.reduceToNat, ne_eq, implies_true, bA, vA, dp, e1]
      exact ⟨(ob, fp, A, i + 1), rfl, ⟨hM, hr, hlt.1⟩, by show l.length - (i + 1) < l.length - i; omega⟩
  have hd : ((decide ((i : Int) < (l.length : Int))) = false) ∨ (decide ((i : Int) < (l.length : Int)) = true ∧ decide ((i : Int) < 40) = false) := by
    by_cases h : i < l.length
    · right; simp; omega
    · left; simp; omega
  obtain ⟨A1, e1, dd1, z1, u1, hd1⟩ : ∃ A1 e1 dd1 z1 u1, doV K A q = (A1, ⟨e1, dd1, z1, u1⟩) := ⟨_, _, _, _, _, rfl⟩
  have hap : ∀ id, id ≠ q.id → getG id A1 = getG id A := fun id hne => by have := do_apart (cap := K) (A := A) q hne; rw [hd1] at this; exact this
  have hvol := hM.vol
  have r0 := hr.1
  rcases hd with dl | ⟨dl, dl2⟩
  all_goals first | simp only [reduceIte, reduceCtorEq, Nat.reduceEqDiff, Nat.reduceAdd, Int.reduceLT, Int.reduceLE, Int.reduceNeg, Int.reduceEq, Nat.reduceLT, Nat.reduceSub, Nat.reduceMul, Nat.reduceBEq, Nat.reduceLeDiff, Int.reduceBEq, Int.reduceBNe, Int.reduceToNat, ne_eq, implies_true, bA, vA, dl, dl2, r0] | simp only [reduceIte, reduceCtorEq, Nat.reduceEqDiff, Nat.reduceAdd, Int.reduceLT, Int.reduceLE, Int.reduceNeg, Int.reduceEq, Nat.reduceLT, Nat.reduceSub, Nat.reduceMul, Nat.reduceBEq, Nat.reduceLeDiff, Int.reduceBEq, Int.reduceBNe, Int.reduceToNat, ne_eq, implies_true, bA, vA, dl, r0]
  all_goals refine callM (copy_j hM) ?_
  all_goals
    rintro r ob2 ⟨fpC, rfl, hC, hFC⟩
    obtain ⟨k1, k2⟩ := hFC.wide (Mod.lt hM)
    have hM2 := hM.keep k1
    have hr2 := hFC.at (j := 0) ⟨hr.1, by simp⟩
    have hr2' : ob2[0]? = some (.box (rowQ q)) ∧ 0 ∉ fp := ⟨hr2.1, hr.2⟩
    have r2 := hr2.1
    obtain ⟨bC, hbC⟩ : ∃ bC, ob.length + 1 = bC := ⟨_, rfl⟩
    rw [hbC] at hC
    simp only [reduceIte, reduceCtorEq, Nat.reduceEqDiff, Nat.reduceAdd, Int.reduceLT, Int.reduceLE, Int.reduceNeg, Int.reduceEq, Nat.reduceLT, Nat.reduceSub, Nat.reduceMul, Nat.reduceBEq, Nat.reduceLeDiff, Int.reduceBEq, Int.reduceBNe, Int.reduceToNat, ne_eq, implies_true, bA, vA, hbC, r2]
    refine callM (do_w hM2 q hq' hd1) ?_
    rintro r ob3 ⟨ids, fp3, rfl, hM3, hF3, _⟩
    have hr3 := hF3.at hr2'
    obtain ⟨hC3, k3⟩ := hC.frame k2 hF3
    simp only [reduceIte, reduceCtorEq, Nat.reduceEqDiff, Nat.reduceAdd, Int.reduceLT, Int.reduceLE, Int.reduceNeg, Int.reduceEq, Nat.reduceLT, Nat.reduceSub, Nat.reduceMul, Nat.reduceBEq, Nat.reduceLeDiff, Int.reduceBEq, Int.reduceBNe, Int.reduceToNat, ne_eq, implies_true, bA, vA]
    refine callM (ids_j hC3) ?_
    rintro r ob4 ⟨rfl, x0, rfl⟩
    obtain ⟨jI, hjI⟩ : ∃ jI, ob3.length + 1 = jI := ⟨_, rfl⟩
    have hI : (ob3 ++ [x0, AObj.list 1 (rowsZ .i64 (A.map (·.id)))])[jI]? = some (.list 1 (rowsZ .i64 (A.map (·.id)))) := by rw [← hjI, ap1]; rfl
    simp only [reduceIte, reduceCtorEq, Nat.reduceEqDiff, Nat.reduceAdd, Int.reduceLT, Int.reduceLE, Int.reduceNeg, Int.reduceEq, Nat.reduceLT, Nat.reduceSub, Nat.reduceMul, Nat.reduceBEq, Nat.reduceLeDiff, Int.reduceBEq, Int.reduceBNe, Int.reduceToNat, ne_eq, implies_true, bA, vA, hjI]
    refine loopF (fun x : List AObj × Nat => ⟨ofL [(5, .ref 0 0), (7, .ref 2 0), (9, .ref bC 0), (10, .osl jI 0 A.length), (11, .int .i64 (x.2 : Int))], x.1⟩)
      (fun x => Mod x.1 fp3 2 K A1 ∧ Mod x.1 fpC bC K A ∧ x.1[0]? = some (.box (rowQ q)) ∧ x.1[jI]? = some (.list 1 (rowsZ .i64 (A.map (·.id)))) ∧ x.2 ≤ A.length) (fun x => A.length - x.2) (ob3 ++ [x0, AObj.list 1 (rowsZ .i64 (A.map (·.id)))], 0) ?_ ⟨hM3.app, hC3.app, apL hr3.1 _, hI, Nat.zero_le _⟩ ?_
    · simp only [reduceIte, reduceCtorEq, Nat.reduceEqDiff, Nat.reduceAdd, Int.reduceLT, Int.reduceLE, Int.reduceNeg, Int.reduceEq, Nat.reduceLT, Nat.reduceSub, Nat.reduceMul, Nat.reduceBEq, Nat.reduceLeDiff, Int.reduceBEq, Int.reduceBNe, Int.reduceToNat, ne_eq, implies_true, bA, vA]
      all_goals rfl
  all_goals
    clear hM hM2 hM3 hC hC3 hr hr2 hr2' hr3 r0 r2 hI hF3 hFC k1 k2 k3
    rintro ⟨O, i2⟩ ⟨hM, hC, hr, hI, hi2⟩
    simp only at hM hC hr hI hi2
    have hAl := hvol.len
    have hR : rowsO (some (AObj.list 1 ((A.map (·.id)).map fun n : Int => [PV.int .i64 n]))) 0 A.length = some ((A.map (·.id)).map fun n : Int => [PV.int .i64 n]) := rowsO_all (by simp)
    by_cases hlt2 : i2 < A.length
    · have d1 : decide ((i2 : Int) < (A.length : Int)) = true := by simpa using hlt2
      have e1 : IntKind.i64.wrap ((i2 : Int) + 1) = ((i2 + 1 : Nat) : Int) := by rw [wrapI (by omega) (by omega)]; omega
      have hlt' : i2 < (A.map (·.id)).length := by simpa using hlt2
      have hid : (A.map (·.id))[i2] = A[i2].id := by simp
      have i1 := islO_map (g := fun n : Int => [PV.int .i64 n]) (l := A.map (·.id)) (e := 1) (o := jI) (m := A.length) (k := .i64) (by simp) hlt'
      have i3 := ldL_map (g := fun n : Int => [PV.int .i64 n]) (l := A.map (·.id)) (e := 1) (len := A.length) (off := 0) (n := 1) (by simp) hlt' (by simp)
      rw [hid] at i3
      obtain ⟨s, hs⟩ : ∃ s, A[i2] = s := ⟨_, rfl⟩
      rw [hs] at i3
      have hsA : s ∈ A := by rw [← hs]; exact List.getElem_mem hlt2
      have hg : getG s.id A = some s := getG_mem hvol.srt hsA
      have hsec := hvol.sec s hsA
      by_cases hidq : s.id = q.id
      · have dq : (s.id == q.id) = true := by simpa using hidq
        simp only [reduceIte, reduceCtorEq, Nat.reduceEqDiff, Nat.reduceAdd, Int.reduceLT, Int.reduceLE, Int.reduceNeg, Int.reduceEq, Nat.reduceLT, Nat.reduceSub, Nat.reduceMul, Nat.reduceBEq, Nat.reduceLeDiff, Int.reduceBEq, Int.reduceBNe, Int.reduceToNat, ne_eq, implies_true, bA, vA, d1, hI, hR, i1, i3, rowsZ, hr, dq, e1]
        exact ⟨(O, i2 + 1), rfl, ⟨hM, hC, hr, hI, hlt2⟩, by show A.length - (i2 + 1) < A.length - i2; omega⟩
      have dq : (s.id == q.id) = false := by simpa using hidq
      have hg1 : getG s.id A1 = some s := by rw [hap _ hidq]; exact hg
      simp only [reduceIte, reduceCtorEq, Nat.reduceEqDiff, Nat.reduceAdd, Int.reduceLT, Int.reduceLE, Int.reduceNeg, Int.reduceEq, Nat.reduceLT, Nat.reduceSub, Nat.reduceMul, Nat.reduceBEq, Nat.reduceLeDiff, Int.reduceBEq, Int.reduceBNe, Int.reduceToNat, ne_eq, implies_true, bA, vA, d1, hI, hR, i1, i3, rowsZ, hr, dq]
      rw [mDN ac_law17_ModelApart_37.eq_1]
      refine ATO_mono _ (K := fun t => (∃ x1 x2, t.ob = O ++ [x1, .list 1 (rowsZ .i64 (s.S.map (·.at_))), x2, .list 1 (rowsZ .i64 (s.S.map (·.at_)))]) ∧ t.sl 5 = .ref 0 0 ∧ t.sl 7 = .ref 2 0 ∧ t.sl 9 = .ref bC 0 ∧ t.sl 10 = .osl jI 0 A.length ∧ t.sl 11 = .int .i64 (i2 : Int) ∧ t.sl 12 = .osl (O.length + 1) 0 s.S.length ∧ t.sl 13 = .osl (O.length + 3) 0 s.S.length) ?_ ?_
      rotate_left
      · have hIA := fun l => apL hI l
        simp only [reduceIte, reduceCtorEq, Nat.reduceEqDiff, Nat.reduceAdd, Int.reduceLT, Int.reduceLE, Int.reduceNeg, Int.reduceEq, Nat.reduceLT, Nat.reduceSub, Nat.reduceMul, Nat.reduceBEq, Nat.reduceLeDiff, Int.reduceBEq, Int.reduceBNe, Int.reduceToNat, ne_eq, implies_true, bA, v37, hI, hIA, hR, i1, i3, rowsZ]
        refine ⟨?_, ?_, ?_⟩
        all_goals
          refine callM (at_j hC hg) ?_
          rintro r ob' ⟨rfl, x1, rfl⟩
          simp only [reduceIte, reduceCtorEq, Nat.reduceEqDiff, Nat.reduceAdd, Int.reduceLT, Int.reduceLE, Int.reduceNeg, Int.reduceEq, Nat.reduceLT, Nat.reduceSub, Nat.reduceMul, Nat.reduceBEq, Nat.reduceLeDiff, Int.reduceBEq, Int.reduceBNe, Int.reduceToNat, ne_eq, implies_true, bA, v37, hI, hIA, hR, i1, i3, rowsZ]
          refine callM (at_j hM.app hg1) ?_
          rintro r ob' ⟨rfl, x2, rfl⟩
          simp only [reduceIte, reduceCtorEq, Nat.reduceEqDiff, Nat.reduceAdd, Int.reduceLT, Int.reduceLE, Int.reduceNeg, Int.reduceEq, Nat.reduceLT, Nat.reduceSub, Nat.reduceMul, Nat.reduceBEq, Nat.reduceLeDiff, Int.reduceBEq, Int.reduceBNe, Int.reduceToNat, ne_eq, implies_true, bA, v37, hI, hIA, hR, i1, i3, rowsZ]
          exact ⟨x1, x2, rfl⟩
      rintro ⟨f, O4⟩ ⟨⟨x1, x2, hO4⟩, h5, h7, h9, h10, h11, h12, h13⟩
      simp only at hO4 h5 h7 h9 h10 h11 h12 h13
      replace hM : Mod O4 fp3 2 K A1 := by rw [hO4]; exact hM.app
      replace hC : Mod O4 fpC bC K A := by rw [hO4]; exact hC.app
      have ha4 : O4[O.length + 1]? = some (.list 1 (rowsZ .i64 (s.S.map (·.at_)))) := by rw [hO4, ap1]; rfl
      have hb4 : O4[O.length + 3]? = some (.list 1 (rowsZ .i64 (s.S.map (·.at_)))) := by rw [hO4, ap3]; rfl
      replace hr : O4[0]? = some (.box (rowQ q)) := by rw [hO4]; exact apL hr _
      replace hI : O4[jI]? = some (.list 1 (rowsZ .i64 (A.map (·.id)))) := by rw [hO4]; exact apL hI _
      obtain ⟨ja, hja⟩ : ∃ ja, O.length + 1 = ja := ⟨_, rfl⟩
      obtain ⟨jb, hjb⟩ : ∃ jb, O.length + 3 = jb := ⟨_, rfl⟩
      rw [hja] at h12 ha4
      rw [hjb] at h13 hb4
      clear hO4 hja hjb
      simp only [reduceIte, reduceCtorEq, Nat.reduceEqDiff, Nat.reduceAdd, Int.reduceLT, Int.reduceLE, Int.reduceNeg, Int.reduceEq, Nat.reduceLT, Nat.reduceSub, Nat.reduceMul, Nat.reduceBEq, Nat.reduceLeDiff, Int.reduceBEq, Int.reduceBNe, Int.reduceToNat, ne_eq, implies_true, bA, vA]
      rw [mDN ac_law17_ModelApart_38.eq_1]
      refine ATO_mono _ (K := fun t => t.ob = O4 ++ [.box [.int .i64 0, .str [], .int .i64 s.size, .int .i64 (s.S.length : Int), .slc []], .box [.int .i64 0, .str [], .int .i64 s.size, .int .i64 (s.S.length : Int), .slc []]] ∧ t.sl 5 = .ref 0 0 ∧ t.sl 7 = .ref 2 0 ∧ t.sl 9 = .ref bC 0 ∧ t.sl 10 = .osl jI 0 A.length ∧ t.sl 11 = .int .i64 (i2 : Int) ∧ t.sl 12 = .osl ja 0 s.S.length ∧ t.sl 13 = .osl jb 0 s.S.length ∧ t.sl 14 = .ref O4.length 0 ∧ t.sl 15 = .ref (O4.length + 1) 0) ?_ ?_
      rotate_left
      · have hIA := fun l => apL hI l
        have nI0 : (jI == O4.length) = false := by have := lt_of_get hI; simp; omega
        have nI1 : (jI == O4.length + 1) = false := by have := lt_of_get hI; simp; omega
        have hw := fun l => do9_r (hC.app (ex := l)) hg
        have hm := fun l => do9_r (hM.app (ex := l)) hg1
        simp only [reduceIte, reduceCtorEq, Nat.reduceEqDiff, Nat.reduceAdd, Int.reduceLT, Int.reduceLE, Int.reduceNeg, Int.reduceEq, Nat.reduceLT, Nat.reduceSub, Nat.reduceMul, Nat.reduceBEq, Nat.reduceLeDiff, Int.reduceBEq, Int.reduceBNe, Int.reduceToNat, ne_eq, implies_true, bA, v38, h5, h7, h9, h10, h11, h12, h13, hIA, hR, i1, i3, rowsZ, nI0, nI1, ap0, ap1, st0, st1]
        refine ⟨⟨?_, ?_, ?_⟩, ?_⟩
        all_goals
          refine callR (hw _) ?_
          simp only [reduceIte, reduceCtorEq, Nat.reduceEqDiff, Nat.reduceAdd, Int.reduceLT, Int.reduceLE, Int.reduceNeg, Int.reduceEq, Nat.reduceLT, Nat.reduceSub, Nat.reduceMul, Nat.reduceBEq, Nat.reduceLeDiff, Int.reduceBEq, Int.reduceBNe, Int.reduceToNat, ne_eq, implies_true, bA, v38, h5, h7, h9, h10, h11, h12, h13, hIA, hR, i1, i3, rowsZ, nI0, nI1, ap0, ap1, st0, st1]
        · refine ⟨⟨?_, ?_, ?_⟩, ?_⟩
          all_goals
            refine callR (hm _) ?_
            simp only [reduceIte, reduceCtorEq, Nat.reduceEqDiff, Nat.reduceAdd, Int.reduceLT, Int.reduceLE, Int.reduceNeg, Int.reduceEq, Nat.reduceLT, Nat.reduceSub, Nat.reduceMul, Nat.reduceBEq, Nat.reduceLeDiff, Int.reduceBEq, Int.reduceBNe, Int.reduceToNat, ne_eq, implies_true, bA, v38, h5, h7, h9, h10, h11, h12, h13, hIA, hR, i1, i3, rowsZ, nI0, nI1, ap0, ap1, st0, st1]
        · refine ⟨?_, ?_⟩
          all_goals
            refine callR (hm _) ?_
            simp only [reduceIte, reduceCtorEq, Nat.reduceEqDiff, Nat.reduceAdd, Int.reduceLT, Int.reduceLE, Int.reduceNeg, Int.reduceEq, Nat.reduceLT, Nat.reduceSub, Nat.reduceMul, Nat.reduceBEq, Nat.reduceLeDiff, Int.reduceBEq, Int.reduceBNe, Int.reduceToNat, ne_eq, implies_true, bA, v38, h5, h7, h9, h10, h11, h12, h13, hIA, hR, i1, i3, rowsZ, nI0, nI1, ap0, ap1, st0, st1]
        · refine callR (hm _) ?_
          simp only [reduceIte, reduceCtorEq, Nat.reduceEqDiff, Nat.reduceAdd, Int.reduceLT, Int.reduceLE, Int.reduceNeg, Int.reduceEq, Nat.reduceLT, Nat.reduceSub, Nat.reduceMul, Nat.reduceBEq, Nat.reduceLeDiff, Int.reduceBEq, Int.reduceBNe, Int.reduceToNat, ne_eq, implies_true, bA, v38, h5, h7, h9, h10, h11, h12, h13, hIA, hR, i1, i3, rowsZ, nI0, nI1, ap0, ap1, st0, st1]
        · refine ⟨?_, ?_⟩
          all_goals
            refine callR (hm _) ?_
            simp only [reduceIte, reduceCtorEq, Nat.reduceEqDiff, Nat.reduceAdd, Int.reduceLT, Int.reduceLE, Int.reduceNeg, Int.reduceEq, Nat.reduceLT, Nat.reduceSub, Nat.reduceMul, Nat.reduceBEq, Nat.reduceLeDiff, Int.reduceBEq, Int.reduceBNe, Int.reduceToNat, ne_eq, implies_true, bA, v38, h5, h7, h9, h10, h11, h12, h13, hIA, hR, i1, i3, rowsZ, nI0, nI1, ap0, ap1, st0, st1]
      rintro ⟨f2, O5⟩ ⟨hO5, g5, g7, g9, g10, g11, g12, g13, g14, g15⟩
      simp only at hO5 g5 g7 g9 g10 g11 g12 g13 g14 g15
      subst hO5
      have haA := fun l => apL ha4 l
      have hbA := fun l => apL hb4 l
      have hRs : rowsO (some (AObj.list 1 ((s.S.map (·.at_)).map fun n : Int => [PV.int .i64 n]))) 0 s.S.length = some ((s.S.map (·.at_)).map fun n : Int => [PV.int .i64 n]) := rowsO_all (by simp)
      have bn : ∀ a : Int, (a != a) = false := fun a => by simp
      simp only [reduceIte, reduceCtorEq, Nat.reduceEqDiff, Nat.reduceAdd, Int.reduceLT, Int.reduceLE, Int.reduceNeg, Int.reduceEq, Nat.reduceLT, Nat.reduceSub, Nat.reduceMul, Nat.reduceBEq, Nat.reduceLeDiff, Int.reduceBEq, Int.reduceBNe, Int.reduceToNat, ne_eq, implies_true, bA, vA, g5, g7, g9, g10, g11, g12, g13, g14, g15, haA, hbA, hRs, rowsZ, ap0, ap1, bn]
      refine loopF (fun x : Nat × List AObj => ⟨ofL [(5, .ref 0 0), (7, .ref 2 0), (9, .ref bC 0), (10, .osl jI 0 A.length), (11, .int .i64 (i2 : Int)), (12, .osl ja 0 s.S.length), (13, .osl jb 0 s.S.length), (16, .int .i64 (x.1 : Int))], x.2⟩)
        (fun x => x.1 ≤ s.S.length ∧ Mod x.2 fp3 2 K A1 ∧ Mod x.2 fpC bC K A ∧ x.2[0]? = some (.box (rowQ q)) ∧ x.2[jI]? = some (.list 1 (rowsZ .i64 (A.map (·.id)))) ∧ x.2[ja]? = some (.list 1 (rowsZ .i64 (s.S.map (·.at_)))) ∧ x.2[jb]? = some (.list 1 (rowsZ .i64 (s.S.map (·.at_)))))
        (fun x => s.S.length - x.1) (0, O4 ++ [.box [.int .i64 0, .str [], .int .i64 s.size, .int .i64 (s.S.length : Int), .slc []], .box [.int .i64 0, .str [], .int .i64 s.size, .int .i64 (s.S.length : Int), .slc []]]) ?_ ⟨Nat.zero_le _, hM.app, hC.app, apL hr _, apL hI _, haA _, hbA _⟩ ?_
      · simp only [reduceIte, reduceCtorEq, Nat.reduceEqDiff, Nat.reduceAdd, Int.reduceLT, Int.reduceLE, Int.reduceNeg, Int.reduceEq, Nat.reduceLT, Nat.reduceSub, Nat.reduceMul, Nat.reduceBEq, Nat.reduceLeDiff, Int.reduceBEq, Int.reduceBNe, Int.reduceToNat, ne_eq, implies_true, bA, vA, g5, g7, g9, g10, g11, g12, g13]
        all_goals rfl
      clear hM hC hr hI ha4 hb4 haA hbA h5 h7 h9 h10 h11 h12 h13 g5 g7 g9 g10 g11 g12 g13 g14 g15
      rintro ⟨k, O⟩ ⟨hk, hM, hC, hr, hI, ha4, hb4⟩
      simp only at hk hM hC hr hI ha4 hb4
      by_cases hkn : k < s.S.length
      · have dk : decide ((k : Int) < (s.S.length : Int)) = true := by simpa using hkn
        have wk1 : IntKind.i64.wrap ((k : Int) + 1) = ((k + 1 : Nat) : Int) := by rw [wrapI (by omega) (by have h1 := usedV_mem hvol.srt hsA; have h2 := hvol.use; have h3 := hvol.c1; omega)]; omega
        have hlk : k < (s.S.map (·.at_)).length := by simpa using hkn
        have hat : (s.S.map (·.at_))[k] = s.S[k].at_ := by simp
        have j1 := fun o => islO_map (g := fun n : Int => [PV.int .i64 n]) (l := s.S.map (·.at_)) (e := 1) (o := o) (m := s.S.length) (k := .i64) (by simp) hlk
        have j3 := ldL_map (g := fun n : Int => [PV.int .i64 n]) (l := s.S.map (·.at_)) (e := 1) (len := s.S.length) (off := 0) (n := 1) (by simp) hlk (by simp)
        rw [hat] at j3
        have hrg := hsec.rng _ (List.getElem_mem hkn)
        obtain ⟨a, ha⟩ : ∃ a, s.S[k].at_ = a := ⟨_, rfl⟩
        rw [ha] at j3 hrg
        have hIA := fun l => apL hI l
        have haA := fun l => apL ha4 l
        have hbA := fun l => apL hb4 l
        have n1 : (jI == O.length) = false := by have := lt_of_get hI; simp; omega
        have n2 : (ja == O.length) = false := by have := lt_of_get ha4; simp; omega
        have hw := fun l => do7_r (hC.app (ex := l)) hg hrg.1 hrg.2
        have hm := fun l => do7_r (hM.app (ex := l)) hg1 hrg.1 hrg.2
        simp only [reduceIte, reduceCtorEq, Nat.reduceEqDiff, Nat.reduceAdd, Int.reduceLT, Int.reduceLE, Int.reduceNeg, Int.reduceEq, Nat.reduceLT, Nat.reduceSub, Nat.reduceMul, Nat.reduceBEq, Nat.reduceLeDiff, Int.reduceBEq, Int.reduceBNe, Int.reduceToNat, ne_eq, implies_true, bA, vA, dk, ha4, hI, hRs, hR, i1, i3, rowsZ, hIA, haA, hbA, j1, j3, n1, n2, ap0, st0, bn]
        refine callR (hw _) ?_
        simp only [reduceIte, reduceCtorEq, Nat.reduceEqDiff, Nat.reduceAdd, Int.reduceLT, Int.reduceLE, Int.reduceNeg, Int.reduceEq, Nat.reduceLT, Nat.reduceSub, Nat.reduceMul, Nat.reduceBEq, Nat.reduceLeDiff, Int.reduceBEq, Int.reduceBNe, Int.reduceToNat, ne_eq, implies_true, bA, vA, hIA, haA, hbA, ap0, st0, bn]
        refine callR (hm _) ?_
        simp only [reduceIte, reduceCtorEq, Nat.reduceEqDiff, Nat.reduceAdd, Int.reduceLT, Int.reduceLE, Int.reduceNeg, Int.reduceEq, Nat.reduceLT, Nat.reduceSub, Nat.reduceMul, Nat.reduceBEq, Nat.reduceLeDiff, Int.reduceBEq, Int.reduceBNe, Int.reduceToNat, ne_eq, implies_true, bA, vA, wk1]
        exact ⟨(k + 1, O ++ [_]), rfl, ⟨hkn, hM.app, hC.app, apL hr _, hIA _, haA _, hbA _⟩, by show s.S.length - (k + 1) < s.S.length - k; omega⟩
      have dk : decide ((k : Int) < (s.S.length : Int)) = false := by simpa using hkn
      simp only [reduceIte, reduceCtorEq, Nat.reduceEqDiff, Nat.reduceAdd, Int.reduceLT, Int.reduceLE, Int.reduceNeg, Int.reduceEq, Nat.reduceLT, Nat.reduceSub, Nat.reduceMul, Nat.reduceBEq, Nat.reduceLeDiff, Int.reduceBEq, Int.reduceBNe, Int.reduceToNat, ne_eq, implies_true, bA, vA, dk, ha4, hRs, rowsZ, e1]
      exact ⟨(O, i2 + 1), rfl, ⟨hM, hC, hr, hI, hlt2⟩, by show A.length - (i2 + 1) < A.length - i2; omega⟩
    · have d1 : decide ((i2 : Int) < (A.length : Int)) = false := by simpa using hlt2
      simp only [reduceIte, reduceCtorEq, Nat.reduceEqDiff, Nat.reduceAdd, Int.reduceLT, Int.reduceLE, Int.reduceNeg, Int.reduceEq, Nat.reduceLT, Nat.reduceSub, Nat.reduceMul, Nat.reduceBEq, Nat.reduceLeDiff, Int.reduceBEq, Int.reduceBNe, Int.reduceToNat, ne_eq, implies_true, bA, vA, d1, hI, hR, rowsZ]
end Go.Proofs.Ythjnfjgejdlbfaa.Aw
