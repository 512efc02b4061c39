/-
  A model that is asked for what changes nothing.
-/
import Derived.Test.YthjnfjgejdlbfaaL17
set_option linter.unusedSimpArgs false
set_option linter.unusedVariables false
namespace Go.Proofs.Ythjnfjgejdlbfaa.Aw
open Go.RowKit

theorem do9_r {ob fp b cap A} (h : Mod ob fp b cap A) {id : Int} {s : Spc} (hg : getG id A = some s) : RCall Try.prog 12 [.ref b 0, pQ ⟨9, id, 0, 0, []⟩] ob (repP 0 [] s.size (s.S.length : Int) (.slc [])) := by
  obtain ⟨m, ck, E, h, _⟩ := h
  refine RCall.of (K := fun r ob' => r = repP 0 [] s.size (s.S.length : Int) (.slc []) ∧ ∃ ex, ob' = ob ++ ex) ?_ (fun r ob' h => h) rfl
  refine icall_dr Try.func12 comp_model_Model_Do ?_
  have hbA := fun l => apL h.hb l
  have hmA := fun l => apL h.hm l
  obtain ⟨nm, hnm, hnq⟩ := name_yes (op := 9) (by omega)
  obtain ⟨E1, e, E2, rfl, rfl, hk⟩ := h.get hg
  have he : e ∈ E1 ++ e :: E2 := mid_mem.2 (.inl rfl)
  have hsA := fun l => apL (h.sp e he) l
  have hpA := fun l => apL (h.mp e he) l
  have hln := h.slen he
  simp (config := {maxSteps := 4000000}) only [U_model_Model_Do, ap0, ap1, reduceIte, reduceCtorEq, Nat.reduceEqDiff, Nat.reduceAdd, Int.reduceLT, Int.reduceLE, Int.reduceNeg, Int.reduceEq, Nat.reduceLT, Nat.reduceSub, Nat.reduceMul, Nat.reduceBEq, Nat.reduceLeDiff, Int.reduceBEq, Int.reduceBNe, Int.reduceToNat, ne_eq, implies_true, bA]
  refine callI hnm ?_
  simp (config := {maxSteps := 4000000}) only [U_model_Model_Do, ap0, ap1, st1, hnq, hbA, hmA, hk, hsA, hpA, hln, reduceIte, reduceCtorEq, Nat.reduceEqDiff, Nat.reduceAdd, Int.reduceLT, Int.reduceLE, Int.reduceNeg, Int.reduceEq, Nat.reduceLT, Nat.reduceSub, Nat.reduceMul, Nat.reduceBEq, Nat.reduceLeDiff, Int.reduceBEq, Int.reduceBNe, Int.reduceToNat, ne_eq, implies_true, bA]
  exact ⟨_, rfl, rfl, _, rfl⟩
theorem sec7_i {ob b m ck cap A} {E1 E2 : List SpE} {e : SpE} (h : ModAt ob b m ck (E1 ++ e :: E2) cap A) {id at_ : Int} (h0 : 0 ≤ at_) (h1 : at_ < e.s.size) :
    ICall Try.prog 31 [.ref b 0, .ref e.sb 0, pQ ⟨7, id, at_, 1, []⟩] ob fun r ob' => r = repP 0 (readS e.s.S at_ 1) 0 0 (.slc []) ∧ ∃ ex, ob' = ob ++ ex := by
  refine icall_dr Try.func31 comp_model_Model_sectors ?_
  have he : e ∈ E1 ++ e :: E2 := mid_mem.2 (.inl rfl)
  have hsp := h.sp e he
  have hsA := fun l => apL hsp l
  have hsec := h.vol.sec e.s (h.inA he)
  have hszs := h.vol.szs e.s (h.inA he)
  have hw := whole_spec ⟨7, id, at_, 1, []⟩ (by simp)
  rw [show wN ⟨7, id, at_, 1, []⟩ = 1 by simp [wN], show wB ⟨7, id, at_, 1, []⟩ = true by simp [wB, wN]] at hw
  have d1 : decide (at_ < 0) = false := by simp; omega
  have d2 : decide (e.s.size < at_) = false := by simp; omega
  have e1 : IntKind.i64.wrap (e.s.size - at_) = e.s.size - at_ := wrapI (by omega) (by omega)
  have d3 : decide (e.s.size - at_ < 1) = false := by simp; omega
  simp (config := {maxSteps := 4000000}) only [U_model_Model_sectors, ap0, ap1, hsA, reduceIte, reduceCtorEq, Nat.reduceEqDiff, Nat.reduceAdd, Int.reduceLT, Int.reduceLE, Int.reduceNeg, Int.reduceEq, Nat.reduceLT, Nat.reduceSub, Nat.reduceMul, Nat.reduceBEq, Nat.reduceLeDiff, Int.reduceBEq, Int.reduceBNe, Int.reduceToNat, ne_eq, implies_true, bA]
  refine callI hw ?_
  simp (config := {maxSteps := 4000000}) only [U_model_Model_sectors, ap0, ap1, ap2, st1, st2, d1, d2, d3, e1, hsA, reduceIte, reduceCtorEq, Nat.reduceEqDiff, Nat.reduceAdd, Int.reduceLT, Int.reduceLE, Int.reduceNeg, Int.reduceEq, Nat.reduceLT, Nat.reduceSub, Nat.reduceMul, Nat.reduceBEq, Nat.reduceLeDiff, Int.reduceBEq, Int.reduceBNe, Int.reduceToNat, ne_eq, implies_true, bA]
  refine callM (read_i (n := 1) (apL hsp _) (apL (h.mp e he) _) (h.rel e he) hsec ⟨by omega, by omega⟩ (by omega)) ?_
  rintro r ob' ⟨rfl, ex, rfl⟩
  simp (config := {maxSteps := 4000000}) only [U_model_Model_sectors, ap0, ap1, ap2, st1, st2, reduceIte, reduceCtorEq, Nat.reduceEqDiff, Nat.reduceAdd, Int.reduceLT, Int.reduceLE, Int.reduceNeg, Int.reduceEq, Nat.reduceLT, Nat.reduceSub, Nat.reduceMul, Nat.reduceBEq, Nat.reduceLeDiff, Int.reduceBEq, Int.reduceBNe, Int.reduceToNat, ne_eq, implies_true, bA]
  exact ⟨_, rfl, rfl, _, rfl⟩
theorem do7_i {ob fp b cap A} (h : Mod ob fp b cap A) {id at_ : Int} {s : Spc} (hg : getG id A = some s) (h0 : 0 ≤ at_) (h1 : at_ < s.size) : ICall Try.prog 12 [.ref b 0, pQ ⟨7, id, at_, 1, []⟩] ob fun r ob' => r = repP 0 (readS s.S at_ 1) 0 0 (.slc []) ∧ ∃ ex, ob' = ob ++ ex := by
  obtain ⟨m, ck, E, h, _⟩ := h
  refine icall_dr Try.func12 comp_model_Model_Do ?_
  have hbA := fun l => apL h.hb l
  have hmA := fun l => apL h.hm l
  obtain ⟨nm, hnm, hnq⟩ := name_yes (op := 7) (by omega)
  obtain ⟨E1, e, E2, rfl, rfl, hk⟩ := h.get hg
  simp (config := {maxSteps := 4000000}) only [U_model_Model_Do, ap0, ap1, reduceIte, reduceCtorEq, Nat.reduceEqDiff, Nat.reduceAdd, Int.reduceLT, Int.reduceLE, Int.reduceNeg, Int.reduceEq, Nat.reduceLT, Nat.reduceSub, Nat.reduceMul, Nat.reduceBEq, Nat.reduceLeDiff, Int.reduceBEq, Int.reduceBNe, Int.reduceToNat, ne_eq, implies_true, bA]
  refine callI hnm ?_
  simp (config := {maxSteps := 4000000}) only [U_model_Model_Do, ap0, ap1, st1, hnq, hbA, hmA, hk, reduceIte, reduceCtorEq, Nat.reduceEqDiff, Nat.reduceAdd, Int.reduceLT, Int.reduceLE, Int.reduceNeg, Int.reduceEq, Nat.reduceLT, Nat.reduceSub, Nat.reduceMul, Nat.reduceBEq, Nat.reduceLeDiff, Int.reduceBEq, Int.reduceBNe, Int.reduceToNat, ne_eq, implies_true, bA]
  refine callM (sec7_i (h.keep fun i hi => List.getElem?_append_left (h.lt i hi)) h0 h1) ?_
  rintro r ob' ⟨rfl, ex, rfl⟩
  simp (config := {maxSteps := 4000000}) only [U_model_Model_Do, ap0, ap1, st1, reduceIte, reduceCtorEq, Nat.reduceEqDiff, Nat.reduceAdd, Int.reduceLT, Int.reduceLE, Int.reduceNeg, Int.reduceEq, Nat.reduceLT, Nat.reduceSub, Nat.reduceMul, Nat.reduceBEq, Nat.reduceLeDiff, Int.reduceBEq, Int.reduceBNe, Int.reduceToNat, ne_eq, implies_true, bA]
  exact ⟨_, rfl, rfl, _, rfl⟩
theorem do7_r {ob fp b cap A} (h : Mod ob fp b cap A) {id at_ : Int} {s : Spc} (hg : getG id A = some s) (h0 : 0 ≤ at_) (h1 : at_ < s.size) : RCall Try.prog 12 [.ref b 0, pQ ⟨7, id, at_, 1, []⟩] ob (repP 0 (readS s.S at_ 1) 0 0 (.slc [])) :=
  RCall.of (do7_i h hg h0 h1) (fun r ob' h => h) rfl
theorem ids_j {ob fp b cap A} (h : Mod ob fp b cap A) : ICall Try.prog 20 [.ref b 0] ob fun r ob' => r = .osl (ob.length + 1) 0 A.length ∧ ∃ x, ob' = ob ++ [x, .list 1 (rowsZ .i64 (A.map (·.id)))] := by
  obtain ⟨m, ck, E, h, _⟩ := h
  refine callM (ids_i h) ?_
  rintro r ob' ⟨h1, h2⟩
  exact ⟨h1, _, h2⟩
theorem at_j {ob fp b cap A} (h : Mod ob fp b cap A) {id : Int} {s : Spc} (hg : getG id A = some s) : ICall Try.prog 21 [.ref b 0, .int .i64 id] ob fun r ob' => r = .osl (ob.length + 1) 0 s.S.length ∧ ∃ x, ob' = ob ++ [x, .list 1 (rowsZ .i64 (s.S.map (·.at_)))] := by
  obtain ⟨m, ck, E, h, _⟩ := h
  refine callM (at_i h id) ?_
  rw [hg]
  intro r ob' hh
  exact hh

end Go.Proofs.Ythjnfjgejdlbfaa.Aw
